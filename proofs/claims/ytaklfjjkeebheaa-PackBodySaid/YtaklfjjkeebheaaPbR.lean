/-
  Joined texts: Reg Reg2 Reg3 Reg4 Reg5 Reg6 Reg7 Reg8 Reg9.
-/
import Derived.Orders
import Derived.WalkKit
/-
  A region that draws its order, by what each operation leaves: each operation is met once, in whatever world those ahead of it have left. Said of any program. Nothing of the program.
-/
namespace Go.Proofs.Ytaklfjjkeebheaa
set_option linter.unusedVariables false
open Go

section
variable {P : Program} {ops : Array Oper} {Q : Exit → Act → World → Prop}

def dstOf (ops : Array Oper) (i : Nat) : Option Tmp := (ops[i]?).bind (·.dst)
/-- No two operations write one slot. -/
def dstsApart (ops : Array Oper) : Bool := (List.range ops.size).all fun i => (List.range ops.size).all fun j => i == j || dstOf ops i == none || dstOf ops i != dstOf ops j
theorem dstsApart_spec (h : dstsApart ops = true) {i j : Nat} {d : Tmp} (hi : i < ops.size) (hne : i ≠ j) (hd : dstOf ops i = some d) : dstOf ops j ≠ some d := by
  intro hj
  have hjs : j < ops.size := by
    rcases Nat.lt_or_ge j ops.size with h | h
    · exact h
    · unfold dstOf at hj; rw [Array.getElem?_eq_none h] at hj; simp at hj
  unfold dstsApart at h
  have h1 := List.all_eq_true.1 (List.all_eq_true.1 h i (List.mem_range.2 hi)) j (List.mem_range.2 hjs)
  rw [hd, hj] at h1
  simp [hne] at h1

/-- The frame with what the listed operations have yielded. -/
def putAll (ops : Array Oper) (vals : Nat → Value) (listed : Nat → Bool) (a : Act) : Nat → Act
  | 0 => a
  | n + 1 => if listed n then (putAll ops vals listed a n).put (dstOf ops n) (vals n) else putAll ops vals listed a n
theorem putAll_congr {vals vals' : Nat → Value} {listed listed' : Nat → Bool} {a : Act} : ∀ (n : Nat), (∀ i, i < n → listed i = listed' i ∧ (listed i = true → vals i = vals' i)) → putAll ops vals listed a n = putAll ops vals' listed' a n
  | 0, _ => rfl
  | n + 1, h => by
    have ih := putAll_congr (a := a) n (fun i hi => h i (by omega))
    have h1 := h n (by omega)
    simp only [putAll, ih, ← h1.1]
    split
    · rename_i hl; rw [h1.2 hl]
    · rfl
theorem putAll_size {vals : Nat → Value} {listed : Nat → Bool} {a : Act} : ∀ (n : Nat), (putAll ops vals listed a n).tmps.size = a.tmps.size
  | 0 => rfl
  | n + 1 => by
    simp only [putAll]
    split
    · unfold Act.put; split <;> simp [putAll_size n]
    · exact putAll_size n
theorem eval_put_same {a : Act} {d : Tmp} {v : Value} (h : d < a.tmps.size) : (a.put (some d) v).eval (.tmp d) = v := by
  simp [Act.put, Act.eval, Array.getD, h]
theorem eval_put_other {a : Act} {x : Option Tmp} {d : Tmp} {v : Value} (h : x ≠ some d) : (a.put x v).eval (.tmp d) = a.eval (.tmp d) := by
  cases x with
  | none => rfl
  | some x =>
    have : x ≠ d := fun e => h (by rw [e])
    simp only [Act.put, Act.eval, Array.getD_eq_getD_getElem?, Array.getElem?_setIfInBounds, if_neg this]
theorem putAll_eval_far {vals : Nat → Value} {listed : Nat → Bool} {a : Act} {d : Tmp} : ∀ (n : Nat), (∀ j, j < n → dstOf ops j ≠ some d) → (putAll ops vals listed a n).eval (.tmp d) = a.eval (.tmp d)
  | 0, _ => rfl
  | n + 1, h => by
    simp only [putAll]
    split
    · rw [eval_put_other (h n (by omega))]; exact putAll_eval_far n (fun j hj => h j (by omega))
    · exact putAll_eval_far n (fun j hj => h j (by omega))
theorem putAll_eval_at (hd : dstsApart ops = true) {vals : Nat → Value} {listed : Nat → Bool} {a : Act} {d : Tmp} {j : Nat} (hj : dstOf ops j = some d) (hl : listed j = true) (hs : d < a.tmps.size) : ∀ (n : Nat), j < n → n ≤ ops.size → (putAll ops vals listed a n).eval (.tmp d) = vals j
  | 0, h, _ => by omega
  | n + 1, h, hn => by
    simp only [putAll]
    by_cases he : j = n
    · subst he
      rw [if_pos hl, hj]
      exact eval_put_same (by rw [putAll_size]; exact hs)
    · split
      · rw [eval_put_other]
        · exact putAll_eval_at hd hj hl hs n (by omega) (by omega)
        · exact dstsApart_spec hd (by omega) he hj
      · exact putAll_eval_at hd hj hl hs n (by omega) (by omega)
theorem put_none (a : Act) (v : Value) : a.put none v = a := rfl
theorem putAll_put (hd : dstsApart ops = true) {vals : Nat → Value} {listed : Nat → Bool} {a : Act} {i : Nat} {v : Value} (hi : listed i = false) : ∀ (n : Nat), i < n → n ≤ ops.size →
    (putAll ops vals listed a n).put (dstOf ops i) v = putAll ops (fun k => if k = i then v else vals k) (fun k => if k = i then true else listed k) a n
  | 0, h, _ => by omega
  | n + 1, h, hn => by
    by_cases he : i = n
    · subst he
      simp only [putAll, hi, if_true, if_false, Bool.false_eq_true]
      congr 1
      exact putAll_congr i (fun k hk => by have : k ≠ i := by omega
                                           simp [this])
    · have ih := putAll_put hd (vals := vals) (listed := listed) (a := a) (v := v) hi n (by omega) (by omega)
      have hne : n ≠ i := fun e => he e.symm
      simp only [putAll, if_neg hne]
      split
      · rw [← ih]
        exact Act.put_comm _ _ _ (fun d hd1 hd2 => dstsApart_spec hd (by omega) hne hd1 hd2)
      · exact ih

/-- What each operation must do, those that it waits for being done. V i v w: the i-th operation's value is v, in the world w; G: what holds all along; Gr j: what the j-th one may do to the world. -/
def StepOk (P : Program) (ops : Array Oper) (Q : Exit → Act → World → Prop) (V : Nat → Value → World → Prop) (G : World → Prop) (Gr : Nat → World → World → Prop) (a0 : Act) (i : Nat) (o : Oper) : Prop :=
  ∀ (a' : Act) (w' : World) (vals : Nat → Value), G w' → (∀ e ∈ o.after.toList, Region.binds .any e = true → V e.on (vals e.on) w' ∧ ∀ d, dstOf ops e.on = some d → a'.eval (.tmp d) = vals e.on) →
    (∀ d, (List.range ops.size).all (fun j => dstOf ops j != some d) = true → a'.eval (.tmp d) = a0.eval (.tmp d)) → a'.tmps.size = a0.tmps.size →
    ∀ K : Act → World → Prop, (∀ v w'', V i v w'' → G w'' → Gr i w' w'' → K (a'.put o.dst v) w'') → wpOp P ops Q i K a' w'

theorem setIf_getD {listed : Array Bool} {i : Nat} (hi : i < listed.size) (k : Nat) (d : Bool) : (listed.setIfInBounds i true).getD k d = if k = i then true else listed.getD k d := by
  by_cases h : k = i
  · subst h; simp [Array.getD, hi]
  · simp only [Array.getD_eq_getD_getElem?, Array.getElem?_setIfInBounds, if_neg (Ne.symm h), if_neg h]

theorem wpAny_posts (hd : dstsApart ops = true) (V : Nat → Value → World → Prop) (G : World → Prop) (Gr : Nat → World → World → Prop) (a0 : Act)
    (hsz : (List.range ops.size).all (fun i => match dstOf ops i with | some d => decide (d < a0.tmps.size) | none => true) = true)
    (hstab : ∀ i j v w w', i ≠ j → V i v w → Gr j w w' → V i v w')
    (hstep : ∀ i o, ops[i]? = some o → StepOk P ops Q V G Gr a0 i o)
    (hdone : ∀ (vals : Nat → Value) w', G w' → (∀ i, i < ops.size → V i (vals i) w') → Q .normal (putAll ops vals (fun _ => true) a0 ops.size) w')
    (hon : ops.all (fun o => o.after.all fun e => decide (e.on < ops.size)) = true) :
    ∀ (fuel : Nat) (listed : Array Bool) (vals : Nat → Value) (w : World), listed.size = ops.size → ((List.range ops.size).filter fun i => !listed.getD i true).length ≤ fuel → G w → (∀ i, i < ops.size → listed.getD i false = true → V i (vals i) w) →
      (∀ i, i < ops.size → Region.ready .any ops listed = [] → listed.getD i false = true) →
      (∀ listed', listed'.size = ops.size → Region.ready .any ops listed' = [] → ∀ i, i < ops.size → listed'.getD i false = true) →
      wpAny P .any ops Q fuel listed (putAll ops vals (fun i => listed.getD i false) a0 ops.size) w := by
  intro fuel
  induction fuel with
  | zero =>
    intro listed vals w hls hf hG hV hall hall'
    have hdn : ∀ i, i < ops.size → listed.getD i false = true := by
      intro i hi
      cases h : listed.getD i false with
      | true => rfl
      | false =>
        have hi' : i < listed.size := by omega
        have h2 : listed.getD i true = false := by simp only [Array.getD, hi', dite_true] at h ⊢; exact h
        have hm : i ∈ (List.range ops.size).filter fun i => !listed.getD i true := List.mem_filter.2 ⟨List.mem_range.2 hi, by simp [h2]⟩
        have : 0 < ((List.range ops.size).filter fun i => !listed.getD i true).length := List.length_pos_of_mem hm
        omega
    have hr : Region.ready .any ops listed = [] := by
      unfold Region.ready
      rw [List.filter_eq_nil_iff]
      intro i hi
      have hi' := List.mem_range.1 hi
      have h1 := hdn i hi'
      have h2 : listed.getD i true = true := by
        have : i < listed.size := by omega
        simp only [Array.getD, this, dite_true] at h1 ⊢; exact h1
      simp [h2]
    refine ⟨hr, ?_⟩
    rw [putAll_congr (vals' := vals) (listed' := fun _ => true) ops.size (fun i hi => ⟨hdn i hi, fun _ => rfl⟩)]
    exact hdone vals w hG (fun i hi => hV i hi (hdn i hi))
  | succ fuel ih =>
    intro listed vals w hls hf hG hV hall hall'
    refine ⟨fun hr => ?_, fun i hi => ?_⟩
    · have hdn := hall' listed hls hr
      rw [putAll_congr (vals' := vals) (listed' := fun _ => true) ops.size (fun i hi => ⟨hdn i hi, fun _ => rfl⟩)]
      exact hdone vals w hG (fun i hi => hV i hi (hdn i hi))
    · unfold Region.ready at hi
      rw [List.mem_filter, List.mem_range] at hi
      obtain ⟨his, hi2⟩ := hi
      simp only [Bool.and_eq_true, Bool.not_eq_true'] at hi2
      obtain ⟨hil, hi3⟩ := hi2
      obtain ⟨o, ho⟩ : ∃ o, ops[i]? = some o := ⟨_, Array.getElem?_eq_getElem his⟩
      rw [ho] at hi3
      simp only [Option.map_some, Option.getD_some] at hi3
      have hil' : listed.getD i false = false := by
        have : i < listed.size := by omega
        simp only [Array.getD, this, dite_true] at hil ⊢; exact hil
      have hson := Array.all_eq_true_iff_forall_mem.1 hon o (Array.mem_of_getElem? ho)
      refine hstep i o ho _ w vals hG (fun e he hb => ?_) (fun d hfar => ?_) (putAll_size _) _ (fun v w'' hv hG'' hgr => ?_)
      · have h1 := Array.all_eq_true_iff_forall_mem.1 hi3 e (by simpa using he)
        rw [hb] at h1
        simp only [Bool.not_true, Bool.false_or] at h1
        have heo : e.on < ops.size := by
          have := Array.all_eq_true_iff_forall_mem.1 hson e (by simpa using he)
          simpa using this
        refine ⟨hV e.on heo h1, fun d hde => ?_⟩
        have hds : d < a0.tmps.size := by
          have := List.all_eq_true.1 hsz e.on (List.mem_range.2 heo)
          rw [hde] at this
          simpa using this
        exact putAll_eval_at hd hde h1 hds ops.size heo (Nat.le_refl _)
      · refine putAll_eval_far ops.size (fun j hj => ?_)
        have := List.all_eq_true.1 hfar j (List.mem_range.2 hj)
        simpa using this
      · have hdo : o.dst = dstOf ops i := by unfold dstOf; rw [ho]; rfl
        rw [hdo, putAll_put hd hil' ops.size his (Nat.le_refl _)]
        have hcg : putAll ops (fun k => if k = i then v else vals k) (fun k => if k = i then true else listed.getD k false) a0 ops.size = putAll ops (fun k => if k = i then v else vals k) (fun k => (listed.setIfInBounds i true).getD k false) a0 ops.size :=
          putAll_congr ops.size (fun k hk => ⟨by rw [setIf_getD (by omega)], fun _ => rfl⟩)
        rw [hcg]
        refine ih (listed.setIfInBounds i true) _ w'' (by simpa using hls) ?_ hG'' (fun k hk hkl => ?_) (fun k hk hr => hall' _ (by simpa using hls) hr k hk) hall'
        · have hsub : ((List.range ops.size).filter fun k => !(listed.setIfInBounds i true).getD k true).length < ((List.range ops.size).filter fun k => !listed.getD k true).length := by
            have e1 : ((List.range ops.size).filter fun k => !(listed.setIfInBounds i true).getD k true) = ((List.range ops.size).filter fun k => !listed.getD k true).filter fun k => decide (k ≠ i) := by
              rw [List.filter_filter]
              apply List.filter_congr
              intro k hk
              rw [setIf_getD (by omega)]
              by_cases hki : k = i <;> simp [hki]
            rw [e1]
            refine List.length_filter_lt_length_iff_exists.2 ⟨i, List.mem_filter.2 ⟨List.mem_range.2 his, by simp [hil]⟩, by simp⟩
          omega
        · rw [setIf_getD (by omega)] at hkl
          by_cases hki : k = i
          · subst hki; simp only [if_true]; exact hv
          · simp only [if_neg hki] at hkl ⊢
            exact hstab k i _ _ _ hki (hV k hk hkl) hgr

/-- Whatever is not listed waits for something that stands ahead of it in the text: so something may always come up. -/
def edgesBack (ops : Array Oper) : Bool := (List.range ops.size).all fun i => match ops[i]? with | some o => o.after.all fun e => decide (e.on < i) | none => true
theorem all_listed (h : edgesBack ops = true) {listed : Array Bool} (hls : listed.size = ops.size) (hr : Region.ready .any ops listed = []) : ∀ n i, i < n → i < ops.size → listed.getD i false = true := by
  intro n
  induction n with
  | zero => intro i hi; omega
  | succ n ih =>
    intro i hi his
    by_cases hin : i < n
    · exact ih i hin his
    obtain rfl : i = n := by omega
    cases hl : listed.getD i false with
    | true => rfl
    | false =>
      exfalso
      have hils : i < listed.size := by omega
      have hl' : listed.getD i true = false := by simp only [Array.getD, hils, dite_true] at hl ⊢; exact hl
      obtain ⟨o, ho⟩ : ∃ o, ops[i]? = some o := ⟨_, Array.getElem?_eq_getElem his⟩
      have he := List.all_eq_true.1 h i (List.mem_range.2 his)
      rw [ho] at he
      have hm : i ∈ Region.ready .any ops listed := by
        unfold Region.ready
        refine List.mem_filter.2 ⟨List.mem_range.2 his, ?_⟩
        rw [hl', ho]
        simp only [Bool.not_false, Option.map_some, Option.getD_some, Bool.true_and]
        refine Array.all_eq_true_iff_forall_mem.2 fun e hem => ?_
        have h1 := Array.all_eq_true_iff_forall_mem.1 he e hem
        simp only [decide_eq_true_eq] at h1
        rw [ih e.on (by omega) (by omega), Bool.or_true]
      rw [hr] at hm
      cases hm
theorem edges_on (h : edgesBack ops = true) : ops.all (fun o => o.after.all fun e => decide (e.on < ops.size)) = true := by
  refine Array.all_eq_true_iff_forall_mem.2 fun o ho => ?_
  obtain ⟨i, hi, rfl⟩ := Array.mem_iff_getElem.1 ho
  have he := List.all_eq_true.1 h i (List.mem_range.2 hi)
  rw [Array.getElem?_eq_getElem hi] at he
  refine Array.all_eq_true_iff_forall_mem.2 fun e hem => ?_
  have h1 := Array.all_eq_true_iff_forall_mem.1 he e hem
  simp only [decide_eq_true_eq] at h1 ⊢
  omega

/-- A region that draws its order, by posts. -/
theorem wp_region_posts {id : Nat} {a : Act} {w : World} (hm : P.follows .mixedOrders = true) (hd : dstsApart ops = true) (hb : edgesBack ops = true)
    (V : Nat → Value → World → Prop) (G : World → Prop) (Gr : Nat → World → World → Prop)
    (hsz : (List.range ops.size).all (fun i => match dstOf ops i with | some d => decide (d < a.tmps.size) | none => true) = true)
    (hstab : ∀ i j v w w', i ≠ j → V i v w → Gr j w w' → V i v w')
    (h0 : G w.drew)
    (hstep : ∀ i o, ops[i]? = some o → StepOk P ops Q V G Gr a i o)
    (hdone : ∀ (vals : Nat → Value) w', G w' → (∀ i, i < ops.size → V i (vals i) w') → Q .normal (putAll ops vals (fun _ => true) a ops.size) w') :
    (Code.region id ops true).wp P Q a w := by
  refine wp_region_any hm ?_
  have hnone : putAll ops (fun _ => undef) (fun i => (Array.replicate ops.size false).getD i false) a ops.size = a := by
    have : ∀ n, putAll ops (fun _ => undef) (fun i => (Array.replicate ops.size false).getD i false) a n = a := by
      intro n
      induction n with
      | zero => rfl
      | succ n ih =>
        have hf : (Array.replicate ops.size false).getD n false = false := by
          by_cases h : n < ops.size <;> simp [Array.getD, h]
        simp only [putAll, hf, Bool.false_eq_true, if_false]; exact ih
    exact this _
  have hA : ∀ listed', listed'.size = ops.size → Region.ready .any ops listed' = [] → ∀ i, i < ops.size → listed'.getD i false = true := fun listed' h1 h2 i hi => all_listed hb h1 h2 (i + 1) i (by omega) hi
  have := wpAny_posts hd V G Gr a hsz hstab hstep hdone (edges_on hb) ops.size (Array.replicate ops.size false) (fun _ => undef) w.drew (by simp) (by
    have := List.length_filter_le (fun i => !(Array.replicate ops.size false).getD i true) (List.range ops.size)
    simpa using this) h0 (fun i hi h => by simp [Array.getD, hi] at h) (fun i hi hr => hA _ (by simp) hr i hi) hA
  rw [hnone] at this
  exact this
end
end Go.Proofs.Ytaklfjjkeebheaa
/-
  A region that draws its order, of which each operation yields a value that is known ahead, whatever the order: each is met once, over the frame that holds all these values. Said of any program. Nothing of the program.
-/
namespace Go.Proofs.Ytaklfjjkeebheaa
set_option linter.unusedVariables false
open Go
section
variable {P : Program} {ops : Array Oper} {Q : Exit → Act → World → Prop}

/-- An operation, in the world w', over the frame aL: it yields v, and G holds. -/
def OpAt (P : Program) (o : Oper) (aL : Act) (v : Value) (G : World → Prop) (w' : World) : Prop :=
  ∀ (K : Act → World → Prop) (Qp : Exit → Act → World → Prop), (∀ w'', G w'' → K (aL.put o.dst v) w'') → o.wp P aL w' K Qp
/-- What an operation looks at stands ahead of it. -/
def depsOk (ops : Array Oper) : Bool := (List.range ops.size).all fun i => match ops[i]? with
  | some o => (o.looksAt ops).all fun t => (List.range ops.size).all fun j => dstOf ops j != some t || o.after.toList.any (fun e => Region.binds .any e && e.on == j)
  | none => true
theorem put_inj {aL : Act} {x : Option Tmp} {v v' : Value} (hs : ∀ d, x = some d → d < aL.tmps.size) (h : aL.put x v = aL.put x v') : x = none ∨ v = v' := by
  cases x with
  | none => exact Or.inl rfl
  | some d =>
    right
    have h1 := eval_put_same (v := v) (hs d rfl)
    rw [h, eval_put_same (hs d rfl)] at h1
    exact h1.symm
theorem put_any {a : Act} {x : Option Tmp} {v v' : Value} (h : x = none ∨ v = v') : a.put x v = a.put x v' := by
  rcases h with rfl | rfl <;> rfl
theorem upon_transfer {o : Oper} {aL a' : Act} {K : Act → World → Prop} {G : World → Prop} {v : Value} {r : Result Next} (hs : ∀ d, o.dst = some d → d < aL.tmps.size)
    (h : o.upon P aL (fun a'' w'' => a'' = aL.put o.dst v ∧ G w'') (fun ex _ w'' => Q ex a' w'') r) (hK : ∀ w'', G w'' → K (a'.put o.dst v) w'') : o.upon P a' K Q r := by
  cases r with
  | ok n w' =>
    cases n with
    | value x =>
      simp only [Oper.upon] at h ⊢
      rw [put_any (put_inj hs h.1)]; exact hK _ h.2
    | skip =>
      simp only [Oper.upon] at h ⊢
      rw [put_any (put_inj hs h.1)]; exact hK _ h.2
    | defer d =>
      simp only [Oper.upon] at h
      have h1 := congrArg (·.defers) h.1
      have e1 : ∀ (a : Act) (x : Option Tmp) (v : Value), (a.put x v).defers = a.defers := by intro a x v; cases x <;> rfl
      simp only [e1] at h1
      exact absurd h1 (List.cons_ne_self _ _)
    | enter f args =>
      simp only [Oper.upon] at h ⊢
      refine Calls.mono h fun e w'' he => ?_
      cases e with
      | returned x => simp only at he ⊢; rw [put_any (put_inj hs he.1)]; exact hK _ he.2
      | panicked c => exact he
      | outgrown => obtain ⟨_, w, hw⟩ := he; exact ⟨a', w, hw⟩
    | row row args =>
      simp only [Oper.upon] at h ⊢
      refine Rows.mono h fun x w'' he => ?_
      rw [put_any (put_inj hs he.1)]; exact hK _ he.2
    | _ => exact h.elim
  | halt x w' => cases x <;> simp only [Oper.upon] at h ⊢ <;> exact h

theorem yielded_eq {a b : Act} {j : Nat} (h : ∀ d, dstOf ops j = some d → d < a.tmps.size ∧ d < b.tmps.size ∧ a.eval (.tmp d) = b.eval (.tmp d)) : yielded ops a.tmps j = yielded ops b.tmps j := by
  unfold yielded
  have hd : (ops[j]?).bind (·.dst) = dstOf ops j := rfl
  rw [hd]
  cases hx : dstOf ops j with
  | none => rfl
  | some d =>
    obtain ⟨h1, h2, h3⟩ := h d hx
    simp only [Option.bind_some]
    simp only [Act.eval, Array.getD, h1, h2, dite_true] at h3
    rw [Array.getElem?_eq_getElem h1, Array.getElem?_eq_getElem h2]
    simp only [Array.getInternal_eq_getElem] at h3
    rw [h3]

theorem wp_region_vals {id : Nat} {a : Act} {w : World} (hm : P.follows .mixedOrders = true) (hd : dstsApart ops = true) (hb : edgesBack ops = true) (hdep : depsOk ops = true) (hsel : Region.noSelect ops = true)
    (vals : Nat → Value) (G : World → Prop)
    (hsz : (List.range ops.size).all (fun i => match dstOf ops i with | some d => decide (d < a.tmps.size) | none => true) = true)
    (h0 : G w.drew)
    (hstep : ∀ i o, ops[i]? = some o → ∀ w', G w' → if Region.wanted o (yielded ops (putAll ops vals (fun _ => true) a ops.size).tmps) = true then OpAt P o (putAll ops vals (fun _ => true) a ops.size) (vals i) G w' else vals i = undef)
    (hdone : ∀ w', G w' → Q .normal (putAll ops vals (fun _ => true) a ops.size) w') :
    (Code.region id ops true).wp P Q a w := by
  refine wp_region_posts hm hd hb (fun i v _ => v = vals i) G (fun _ _ _ => True) hsz (fun i j v w w' _ h _ => h) h0 ?_ ?_
  · intro i o hio a' w' vals' hG hv hfar hsize K hK
    have his : i < ops.size := (Array.getElem?_eq_some_iff.1 hio).1
    have hdep1 := List.all_eq_true.1 hdep i (List.mem_range.2 his)
    rw [hio] at hdep1
    simp only at hdep1
    -- what it looks at holds the value known ahead
    have look : ∀ t, t ∈ o.looksAt ops → a'.eval (.tmp t) = (putAll ops vals (fun _ => true) a ops.size).eval (.tmp t) := by
      intro t ht
      have h1 := List.all_eq_true.1 hdep1 t ht
      by_cases hx : ∃ j, j < ops.size ∧ dstOf ops j = some t
      · obtain ⟨j, hj, hjt⟩ := hx
        have h2 := List.all_eq_true.1 h1 j (List.mem_range.2 hj)
        rw [hjt] at h2
        simp only [bne_self_eq_false, Bool.false_or] at h2
        obtain ⟨e, he, hbe⟩ := List.any_eq_true.1 h2
        simp only [Bool.and_eq_true, beq_iff_eq] at hbe
        obtain ⟨hv1, hv2⟩ := hv e he hbe.1
        have heo : dstOf ops e.on = some t := by rw [hbe.2]; exact hjt
        have hts : t < a.tmps.size := by
          have := List.all_eq_true.1 hsz j (List.mem_range.2 hj)
          rw [hjt] at this
          simpa using this
        rw [hv2 t heo, hv1, putAll_eval_at hd heo rfl hts ops.size (by rw [hbe.2]; exact hj) (Nat.le_refl _)]
      · have hall : (List.range ops.size).all (fun j => dstOf ops j != some t) = true := by
          refine List.all_eq_true.2 fun j hj => ?_
          rw [bne_iff_ne]
          exact fun e => hx ⟨j, List.mem_range.1 hj, e⟩
        rw [hfar t hall, putAll_eval_far ops.size (fun j hj e => hx ⟨j, hj, e⟩)]
    have hexec : execOp a'.eval o = execOp (putAll ops vals (fun _ => true) a ops.size).eval o := by
      refine execOp_congr o (Region.noSelect_spec hsel i o · · hio) fun x hx => ?_
      cases x with
      | tmp t => exact look t (List.mem_append_left _ (List.mem_filterMap.2 ⟨.tmp t, by simpa using hx, rfl⟩))
      | const c => rfl
      | global g => rfl
      | func f => rfl
    have hwant : Region.wanted o (yielded ops a'.tmps) = Region.wanted o (yielded ops (putAll ops vals (fun _ => true) a ops.size).tmps) := by
      unfold Region.wanted
      cases hg : o.guard with
      | none => rfl
      | some gw =>
        obtain ⟨g, want⟩ := gw
        have : yielded ops a'.tmps g = yielded ops (putAll ops vals (fun _ => true) a ops.size).tmps g := by
          refine yielded_eq fun d hgd => ?_
          have hgs : g < ops.size := by
            rcases Nat.lt_or_ge g ops.size with h | h
            · exact h
            · unfold dstOf at hgd; rw [Array.getElem?_eq_none h] at hgd; simp at hgd
          have hds : d < a.tmps.size := by
            have := List.all_eq_true.1 hsz g (List.mem_range.2 hgs)
            rw [hgd] at this
            simpa using this
          refine ⟨by rw [hsize]; exact hds, by rw [putAll_size]; exact hds, look d ?_⟩
          have hgd' : (ops[g]?).bind (·.dst) = some d := hgd
          simp [Oper.looksAt, hg, hgd']
        simp only [this]
    have hst := hstep i o hio w' hG
    unfold wpOp
    simp only [hio, hwant]
    split at hst
    · rename_i hwt
      rw [if_pos hwt]
      left
      unfold Oper.wp
      rw [hexec]
      refine upon_transfer (aL := putAll ops vals (fun _ => true) a ops.size) (G := G) (v := vals i) ?_ (hst _ (fun ex _ w'' => Q ex a' w'') fun w'' h => ⟨rfl, h⟩) fun w'' h => hK _ _ rfl h trivial
      intro d hdd
      rw [putAll_size]
      have := List.all_eq_true.1 hsz i (List.mem_range.2 his)
      have hdo : dstOf ops i = some d := by unfold dstOf; rw [hio]; exact hdd
      rw [hdo] at this
      simpa using this
    · rename_i hwt
      rw [if_neg hwt, ← hst]
      exact hK _ _ rfl hG trivial
  · intro vals' w' hG hall
    rw [putAll_congr (vals' := vals) (listed' := fun _ => true) ops.size (fun i hi => ⟨rfl, fun _ => hall i hi⟩)]
    exact hdone w' hG

/-- For each operation of a list, from the i-th on. -/
def EachOp (F : Nat → Oper → Prop) : Nat → List Oper → Prop
  | _, [] => True
  | i, o :: l => F i o ∧ EachOp F (i + 1) l
theorem EachOp.get {F : Nat → Oper → Prop} : ∀ {l : List Oper} {i : Nat}, EachOp F i l → ∀ k o, l[k]? = some o → F (i + k) o
  | [], _, _, k, o, h => by simp at h
  | x :: l, i, h, 0, o, ho => by simp at ho; subst ho; exact h.1
  | x :: l, i, h, k + 1, o, ho => by
    have := EachOp.get h.2 k o (by simpa using ho)
    have e : i + (k + 1) = i + 1 + k := by omega
    rw [e]; exact this
/-- The same, the frame behind all operations written out. -/
theorem wp_region_vals' {id : Nat} {a aF : Act} {w : World} (vals : List Value) (G : World → Prop) (hF : putAll ops (fun i => vals.getD i undef) (fun _ => true) a ops.size = aF) (hm : P.follows .mixedOrders = true) (hd : dstsApart ops = true) (hb : edgesBack ops = true) (hdep : depsOk ops = true) (hsel : Region.noSelect ops = true)
    (hsz : (List.range ops.size).all (fun i => match dstOf ops i with | some d => decide (d < a.tmps.size) | none => true) = true)
    (h0 : G w.drew)
    (hstep : EachOp (fun i o => ∀ w', G w' → if Region.wanted o (yielded ops aF.tmps) = true then OpAt P o aF (vals.getD i undef) G w' else vals.getD i undef = undef) 0 ops.toList)
    (hdone : ∀ w', G w' → Q .normal aF w') :
    (Code.region id ops true).wp P Q a w := by
  subst hF
  refine wp_region_vals hm hd hb hdep hsel (fun i => vals.getD i undef) G hsz h0 (fun i o hio w' hG => ?_) hdone
  have := EachOp.get hstep i o (by simpa using hio) w' hG
  rw [Nat.zero_add] at this
  exact this
end
end Go.Proofs.Ytaklfjjkeebheaa
/-
  A region that draws its order and whose guards all let pass, of which each operation yields a value of which something is known (that may depend on the run): each is met once, over the frame that holds such values. Said of any program. Nothing of the program.
-/
namespace Go.Proofs.Ytaklfjjkeebheaa
set_option linter.unusedVariables false
open Go
section
variable {P : Program} {ops : Array Oper} {Q : Exit → Act → World → Prop}
theorem upon_transfer' {o : Oper} {aL a' : Act} {K : Act → World → Prop} {R : Value → World → Prop} {r : Result Next} (hs : ∀ d, o.dst = some d → d < aL.tmps.size)
    (h : o.upon P aL (fun a'' w'' => ∃ v, a'' = aL.put o.dst v ∧ R v w'') (fun ex _ w'' => Q ex a' w'') r) (hK : ∀ v w'', R v w'' → K (a'.put o.dst v) w'') : o.upon P a' K Q r := by
  cases r with
  | ok n w' =>
    cases n with
    | value x =>
      simp only [Oper.upon] at h ⊢
      obtain ⟨v, h1, h2⟩ := h
      rw [put_any (put_inj hs h1)]; exact hK _ _ h2
    | skip =>
      simp only [Oper.upon] at h ⊢
      obtain ⟨v, h1, h2⟩ := h
      rw [put_any (put_inj hs h1)]; exact hK _ _ h2
    | defer d =>
      simp only [Oper.upon] at h
      obtain ⟨v, h1, h2⟩ := h
      have h1 := congrArg (·.defers) h1
      have e1 : ∀ (a : Act) (x : Option Tmp) (v : Value), (a.put x v).defers = a.defers := by intro a x v; cases x <;> rfl
      simp only [e1] at h1
      exact absurd h1 (List.cons_ne_self _ _)
    | enter f args =>
      simp only [Oper.upon] at h ⊢
      refine Calls.mono h fun e w'' he => ?_
      cases e with
      | returned x =>
        simp only at he ⊢
        obtain ⟨v, h1, h2⟩ := he
        rw [put_any (put_inj hs h1)]; exact hK _ _ h2
      | panicked c => exact he
      | outgrown => obtain ⟨_, w, hw⟩ := he; exact ⟨a', w, hw⟩
    | row row args =>
      simp only [Oper.upon] at h ⊢
      refine Rows.mono h fun x w'' he => ?_
      obtain ⟨v, h1, h2⟩ := he
      rw [put_any (put_inj hs h1)]; exact hK _ _ h2
    | _ => exact h.elim
  | halt x w' => cases x <;> simp only [Oper.upon] at h ⊢ <;> exact h

def depsOf (o : Oper) : List Nat := (o.after.toList.filter (Region.binds .any)).map (·.on)
/-- What a guard looks at stands ahead of it and has a slot. -/
def guardsOk (ops : Array Oper) : Bool := ops.all fun o => match o.guard with | some (g, _) => (depsOf o).contains g && decide (g < ops.size) && (dstOf ops g).isSome | none => true
def GuardIs (V : Nat → Value → World → Prop) (o : Oper) : Prop := match o.guard with
  | none => True
  | some (g, b) => ∀ (v : Value) (w : World), V g v w → v = .bool b
theorem yielded_is {a' : Act} {g d : Nat} {b : Bool} (hd : dstOf ops g = some d) (hs : d < a'.tmps.size) (he : a'.eval (.tmp d) = .bool b) : yielded ops a'.tmps g = some b := by
  unfold yielded
  have : (ops[g]?).bind (·.dst) = some d := hd
  rw [this]
  simp only [Act.eval, Array.getD, hs, dite_true] at he
  simp only [Option.bind_some]
  rw [Array.getElem?_eq_getElem hs]
  have he' : a'.tmps[d] = .bool b := he
  rw [he']
theorem wp_region_vposts {id : Nat} {a : Act} {w : World} (hm : P.follows .mixedOrders = true) (hd : dstsApart ops = true) (hb : edgesBack ops = true) (hdep : depsOk ops = true) (hsel : Region.noSelect ops = true) (hng : guardsOk ops = true)
    (V : Nat → Value → World → Prop) (G : World → Prop) (Gr : Nat → World → World → Prop)
    (hgv : ∀ (i : Nat) (o : Oper), ops[i]? = some o → GuardIs V o)
    (hsz : (List.range ops.size).all (fun i => match dstOf ops i with | some d => decide (d < a.tmps.size) | none => true) = true)
    (hstab : ∀ i j v w w', i ≠ j → V i v w → Gr j w w' → V i v w')
    (h0 : G w.drew)
    (hstep : ∀ i o, ops[i]? = some o → ∀ (vals : Nat → Value) w', G w' → (∀ j, (depsOf o).contains j = true → V j (vals j) w') →
      ∀ (K : Act → World → Prop) (Qp : Exit → Act → World → Prop), (∀ v w'', V i v w'' → G w'' → Gr i w' w'' → K ((putAll ops vals (fun _ => true) a ops.size).put o.dst v) w'') → o.wp P (putAll ops vals (fun _ => true) a ops.size) w' K Qp)
    (hdone : ∀ (vals : Nat → Value) w', G w' → (∀ i, i < ops.size → V i (vals i) w') → Q .normal (putAll ops vals (fun _ => true) a ops.size) w') :
    (Code.region id ops true).wp P Q a w := by
  refine wp_region_posts hm hd hb V G Gr hsz hstab h0 ?_ hdone
  intro i o hio a' w' vals hG hv hfar hsize K hK
  have his : i < ops.size := (Array.getElem?_eq_some_iff.1 hio).1
  have hdep1 := List.all_eq_true.1 hdep i (List.mem_range.2 his)
  rw [hio] at hdep1
  simp only at hdep1
  have look : ∀ t, t ∈ o.looksAt ops → a'.eval (.tmp t) = (putAll ops vals (fun _ => true) a ops.size).eval (.tmp t) := by
    intro t ht
    have h1 := List.all_eq_true.1 hdep1 t ht
    by_cases hx : ∃ j, j < ops.size ∧ dstOf ops j = some t
    · obtain ⟨j, hj, hjt⟩ := hx
      have h2 := List.all_eq_true.1 h1 j (List.mem_range.2 hj)
      rw [hjt] at h2
      simp only [bne_self_eq_false, Bool.false_or] at h2
      obtain ⟨e, he, hbe⟩ := List.any_eq_true.1 h2
      simp only [Bool.and_eq_true, beq_iff_eq] at hbe
      obtain ⟨hv1, hv2⟩ := hv e he hbe.1
      have heo : dstOf ops e.on = some t := by rw [hbe.2]; exact hjt
      have hts : t < a.tmps.size := by
        have := List.all_eq_true.1 hsz j (List.mem_range.2 hj)
        rw [hjt] at this
        simpa using this
      rw [hv2 t heo, putAll_eval_at hd heo rfl hts ops.size (by rw [hbe.2]; exact hj) (Nat.le_refl _)]
    · have hall : (List.range ops.size).all (fun j => dstOf ops j != some t) = true := by
        refine List.all_eq_true.2 fun j hj => ?_
        rw [bne_iff_ne]
        exact fun e => hx ⟨j, List.mem_range.1 hj, e⟩
      rw [hfar t hall, putAll_eval_far ops.size (fun j hj e => hx ⟨j, hj, e⟩)]
  have hexec : execOp a'.eval o = execOp (putAll ops vals (fun _ => true) a ops.size).eval o := by
    refine execOp_congr o (Region.noSelect_spec hsel i o · · hio) fun x hx => ?_
    cases x with
    | tmp t => exact look t (List.mem_append_left _ (List.mem_filterMap.2 ⟨.tmp t, by simpa using hx, rfl⟩))
    | const c => rfl
    | global g => rfl
    | func f => rfl
  have hwant : Region.wanted o (yielded ops a'.tmps) = true := by
    have h1 := Array.all_eq_true_iff_forall_mem.1 hng o (Array.mem_of_getElem? hio)
    have h2 := hgv i o hio
    unfold GuardIs at h2
    unfold Region.wanted
    cases hg : o.guard with
    | none => rfl
    | some gb =>
      obtain ⟨g, b⟩ := gb
      rw [hg] at h1 h2
      simp only [Bool.and_eq_true, decide_eq_true_eq, Option.isSome_iff_exists] at h1 h2
      obtain ⟨⟨h3, hgs⟩, d, hd'⟩ := h1
      unfold depsOf at h3
      rw [List.contains_iff_mem, List.mem_map] at h3
      obtain ⟨e, he, heg⟩ := h3
      obtain ⟨he1, he2⟩ := List.mem_filter.1 he
      obtain ⟨hv1, hv2⟩ := hv e he1 he2
      rw [heg] at hv1 hv2
      have hds : d < a.tmps.size := by
        have := List.all_eq_true.1 hsz g (List.mem_range.2 hgs)
        rw [hd'] at this
        simpa using this
      have := yielded_is hd' (by rw [hsize]; exact hds) ((hv2 d hd').trans (h2 _ _ hv1))
      simp [this]
  unfold wpOp
  simp only [hio, hwant, if_true]
  left
  unfold Oper.wp
  rw [hexec]
  refine upon_transfer' (aL := putAll ops vals (fun _ => true) a ops.size) (R := fun v w'' => V i v w'' ∧ G w'' ∧ Gr i w' w'') ?_ (hstep i o hio vals w' hG ?_ _ (fun ex _ w'' => Q ex a' w'') fun v w'' h1 h2 h3 => ⟨v, rfl, h1, h2, h3⟩) fun v w'' h => hK _ _ h.1 h.2.1 h.2.2
  · intro d hdd
    rw [putAll_size]
    have := List.all_eq_true.1 hsz i (List.mem_range.2 his)
    have hdo : dstOf ops i = some d := by unfold dstOf; rw [hio]; exact hdd
    rw [hdo] at this
    simpa using this
  · intro j hj
    unfold depsOf at hj
    rw [List.contains_iff_mem, List.mem_map] at hj
    obtain ⟨e, he, rfl⟩ := hj
    obtain ⟨he1, he2⟩ := List.mem_filter.1 he
    exact (hv e he1 he2).1
/-- The same, the frame behind all operations written out, by what they yield. -/
theorem wp_region_vposts' {id : Nat} {a : Act} {aF : (Nat → Value) → Act} {w : World} (V : Nat → Value → World → Prop) (G : World → Prop) (Gr : Nat → World → World → Prop) (hF : ∀ vals, putAll ops vals (fun _ => true) a ops.size = aF vals)
    (hm : P.follows .mixedOrders = true) (hd : dstsApart ops = true) (hb : edgesBack ops = true) (hdep : depsOk ops = true) (hsel : Region.noSelect ops = true) (hng : guardsOk ops = true)
    (hgv : EachOp (fun _ o => GuardIs V o) 0 ops.toList)
    (hsz : (List.range ops.size).all (fun i => match dstOf ops i with | some d => decide (d < a.tmps.size) | none => true) = true)
    (hstab : ∀ i j v w w', i ≠ j → V i v w → Gr j w w' → V i v w')
    (h0 : G w.drew)
    (hstep : EachOp (fun i o => ∀ (vals : Nat → Value) w', G w' → (∀ j, (depsOf o).contains j = true → V j (vals j) w') →
      ∀ (K : Act → World → Prop) (Qp : Exit → Act → World → Prop), (∀ v w'', V i v w'' → G w'' → Gr i w' w'' → K ((aF vals).put o.dst v) w'') → o.wp P (aF vals) w' K Qp) 0 ops.toList)
    (hdone : ∀ (vals : Nat → Value) w', G w' → (∀ i, i < ops.size → V i (vals i) w') → Q .normal (aF vals) w') :
    (Code.region id ops true).wp P Q a w := by
  refine wp_region_vposts hm hd hb hdep hsel hng V G Gr (fun i o hio => by have := EachOp.get hgv i o (by simpa using hio); exact this) hsz hstab h0 (fun i o hio vals w' hG hv => ?_) (fun vals w' hG hv => ?_)
  · have := EachOp.get hstep i o (by simpa using hio) vals w' hG hv
    rw [Nat.zero_add] at this
    rw [hF]; exact this
  · rw [hF]; exact hdone vals w' hG hv
end
end Go.Proofs.Ytaklfjjkeebheaa
/-
  A region whose guards all let pass, whether it draws its order or not, said operation by operation without a frame: what each operation yields out of what those yield that it waits for. Said of any program. Nothing of the program.
-/
namespace Go.Proofs.Ytaklfjjkeebheaa
set_option linter.unusedVariables false
open Go
section
variable {P : Program} {ops : Array Oper} {Q : Exit → Act → World → Prop}
/-- What an operation yields, its operands read by ρ. -/
def OpR (P : Program) (R : Value → World → Prop) : Result Next → Prop
  | .ok (.value v) w' => R v w'
  | .ok .skip w' => R undef w'
  | .ok (.enter f args) w' => Calls P f args w' fun e w'' => ∃ v, e = .returned v ∧ R v w''
  | _ => False
def OpY (P : Program) (o : Oper) (ρ : Operand → Value) (w : World) (R : Value → World → Prop) : Prop := OpR P R ((execOp ρ o).run P w)
theorem OpY.mono {o : Oper} {ρ : Operand → Value} {w : World} {R R' : Value → World → Prop} (h : OpY P o ρ w R) (k : ∀ v w', R v w' → R' v w') : OpY P o ρ w R' := by
  unfold OpY at *
  generalize (execOp ρ o).run P w = r at *
  unfold OpR at *
  split at h
  · exact k _ _ h
  · exact k _ _ h
  · refine Calls.mono h fun e w'' he => ?_
    obtain ⟨v, h1, h2⟩ := he
    exact ⟨v, h1, k _ _ h2⟩
  · exact h.elim
theorem OpY.wp {o : Oper} {a : Act} {w : World} {K : Act → World → Prop} (h : OpY P o a.eval w fun v w'' => K (a.put o.dst v) w'') : o.wp P a w K Q := by
  unfold Oper.wp
  unfold OpY at h
  generalize (execOp a.eval o).run P w = r at *
  unfold OpR at h
  split at h
  · exact h
  · exact h
  · simp only [Oper.upon]
    refine Calls.mono h fun e w'' he => ?_
    obtain ⟨v, rfl, h2⟩ := he
    exact h2
  · exact h.elim
theorem wpOps_posts (hd : dstsApart ops = true) (hb : edgesBack ops = true) (V : Nat → Value → World → Prop) (G : World → Prop) (Gr : Nat → World → World → Prop) (a0 : Act)
    (hsz : (List.range ops.size).all (fun i => match dstOf ops i with | some d => decide (d < a0.tmps.size) | none => true) = true)
    (hstab : ∀ i j v w w', i ≠ j → V i v w → Gr j w w' → V i v w')
    (hstep : ∀ i o, ops[i]? = some o → StepOk P ops Q V G Gr a0 i o)
    (hdone : ∀ (vals : Nat → Value) w', G w' → (∀ i, i < ops.size → V i (vals i) w') → Q .normal (putAll ops vals (fun _ => true) a0 ops.size) w') :
    ∀ (k i : Nat) (vals : Nat → Value) (w : World), i + k = ops.size → G w → (∀ j, j < i → V j (vals j) w) → wpOps P ops Q (List.range' i k) (putAll ops vals (fun j => decide (j < i)) a0 ops.size) w := by
  intro k
  induction k with
  | zero =>
    intro i vals w hik hG hV
    simp only [List.range'_zero, wpOps]
    rw [putAll_congr (vals' := vals) (listed' := fun _ => true) ops.size (fun j hj => ⟨by simp; omega, fun _ => rfl⟩)]
    exact hdone vals w hG (fun j hj => hV j (by omega))
  | succ k ih =>
    intro i vals w hik hG hV
    have his : i < ops.size := by omega
    obtain ⟨o, ho⟩ : ∃ o, ops[i]? = some o := ⟨_, Array.getElem?_eq_getElem his⟩
    rw [List.range'_succ, wpOps_cons]
    have hbi := List.all_eq_true.1 hb i (List.mem_range.2 his)
    rw [ho] at hbi
    refine hstep i o ho _ w vals hG (fun e he hbe => ?_) (fun d hfar => ?_) (putAll_size _) _ (fun v w'' hv hG'' hgr => ?_)
    · have h1 := Array.all_eq_true_iff_forall_mem.1 hbi e (by simpa using he)
      simp only [decide_eq_true_eq] at h1
      have heo : e.on < ops.size := by omega
      refine ⟨hV e.on h1, fun d hde => ?_⟩
      have hds : d < a0.tmps.size := by
        have := List.all_eq_true.1 hsz e.on (List.mem_range.2 heo)
        rw [hde] at this
        simpa using this
      exact putAll_eval_at hd hde (by simpa using h1) hds ops.size heo (Nat.le_refl _)
    · refine putAll_eval_far ops.size (fun j hj => ?_)
      have := List.all_eq_true.1 hfar j (List.mem_range.2 hj)
      simpa using this
    · have hdo : o.dst = dstOf ops i := by unfold dstOf; rw [ho]; rfl
      rw [hdo, putAll_put hd (by simp) ops.size his (Nat.le_refl _)]
      have hcg : putAll ops (fun k => if k = i then v else vals k) (fun k => if k = i then true else decide (k < i)) a0 ops.size = putAll ops (fun k => if k = i then v else vals k) (fun k => decide (k < i + 1)) a0 ops.size :=
        putAll_congr ops.size (fun k hk => ⟨by
          by_cases hki : k = i
          · subst hki; simp
          · simp only [if_neg hki, decide_eq_decide]; omega, fun _ => rfl⟩)
      rw [hcg]
      refine ih (i + 1) _ w'' (by omega) hG'' (fun j hj => ?_)
      by_cases hji : j = i
      · subst hji; simp only [if_true]; exact hv
      · simp only [if_neg hji]
        exact hstab j i _ _ _ hji (hV j (by omega)) hgr
/-- A region by posts, drawn or not. -/
theorem wp_region_posts2 {id : Nat} {draw : Bool} {a : Act} {w : World} (hm : P.follows .mixedOrders = true) (hd : dstsApart ops = true) (hb : edgesBack ops = true)
    (V : Nat → Value → World → Prop) (G : World → Prop) (Gr : Nat → World → World → Prop)
    (hsz : (List.range ops.size).all (fun i => match dstOf ops i with | some d => decide (d < a.tmps.size) | none => true) = true)
    (hstab : ∀ i j v w w', i ≠ j → V i v w → Gr j w w' → V i v w')
    (h0 : G (if draw then w.drew else w))
    (hstep : ∀ i o, ops[i]? = some o → StepOk P ops Q V G Gr a i o)
    (hdone : ∀ (vals : Nat → Value) w', G w' → (∀ i, i < ops.size → V i (vals i) w') → Q .normal (putAll ops vals (fun _ => true) a ops.size) w') :
    (Code.region id ops draw).wp P Q a w := by
  cases draw with
  | true => exact wp_region_posts hm hd hb V G Gr hsz hstab h0 hstep hdone
  | false =>
    refine wp_region ?_
    rw [List.range_eq_range']
    have hnone : ∀ n, putAll ops (fun _ => undef) (fun j => decide (j < 0)) a n = a := by
      intro n
      induction n with
      | zero => rfl
      | succ n ih => simp only [putAll, Nat.not_lt_zero, decide_false, Bool.false_eq_true, if_false]; simpa using ih
    have := wpOps_posts hd hb V G Gr a hsz hstab hstep hdone ops.size 0 (fun _ => undef) w (by omega) h0 (fun j hj => by omega)
    rw [hnone] at this
    exact this
/-- The slots that no operation writes. -/
def farOf (ops : Array Oper) (d : Tmp) : Bool := (List.range ops.size).all fun j => dstOf ops j != some d
theorem wp_region_ops {id : Nat} {draw : Bool} {a : Act} {w : World} (hm : P.follows .mixedOrders = true) (hd : dstsApart ops = true) (hb : edgesBack ops = true) (hng : guardsOk ops = true)
    (V : Nat → Value → World → Prop) (G : World → Prop) (Gr : World → World → Prop)
    (hgv : ∀ (i : Nat) (o : Oper), ops[i]? = some o → GuardIs V o)
    (hsz : (List.range ops.size).all (fun i => match dstOf ops i with | some d => decide (d < a.tmps.size) | none => true) = true)
    (hstab : ∀ i v w w', V i v w → Gr w w' → V i v w')
    (h0 : G (if draw then w.drew else w))
    (hstep : ∀ i o, ops[i]? = some o → ∀ (ρ : Operand → Value) w', G w' → (∀ v, ρ (.const v) = v) → (∀ g, ρ (.global g) = .pointer (some ⟨g, 0, none⟩)) → (∀ f, ρ (.func f) = .func (.func f) #[] #[]) →
      (∀ j d, (depsOf o).contains j = true → dstOf ops j = some d → V j (ρ (.tmp d)) w') → (∀ d, farOf ops d = true → ρ (.tmp d) = a.eval (.tmp d)) →
      OpY P o ρ w' fun v w'' => V i v w'' ∧ G w'' ∧ Gr w' w'')
    (hdone : ∀ (vals : Nat → Value) w', G w' → (∀ i, i < ops.size → V i (vals i) w') → Q .normal (putAll ops vals (fun _ => true) a ops.size) w') :
    (Code.region id ops draw).wp P Q a w := by
  refine wp_region_posts2 hm hd hb V G (fun _ => Gr) hsz (fun i j v w w' _ h g => hstab i v w w' h g) h0 ?_ hdone
  intro i o hio a' w' vals hG hv hfar hsize K hK
  have his : i < ops.size := (Array.getElem?_eq_some_iff.1 hio).1
  have hwant : Region.wanted o (yielded ops a'.tmps) = true := by
    have h1 := Array.all_eq_true_iff_forall_mem.1 hng o (Array.mem_of_getElem? hio)
    have h2 := hgv i o hio
    unfold GuardIs at h2
    unfold Region.wanted
    cases hg : o.guard with
    | none => rfl
    | some gb =>
      obtain ⟨g, b⟩ := gb
      rw [hg] at h1 h2
      simp only [Bool.and_eq_true, decide_eq_true_eq, Option.isSome_iff_exists] at h1 h2
      obtain ⟨⟨h3, hgs⟩, d, hd'⟩ := h1
      unfold depsOf at h3
      rw [List.contains_iff_mem, List.mem_map] at h3
      obtain ⟨e, he, heg⟩ := h3
      obtain ⟨he1, he2⟩ := List.mem_filter.1 he
      obtain ⟨hv1, hv2⟩ := hv e he1 he2
      rw [heg] at hv1 hv2
      have hds : d < a.tmps.size := by
        have := List.all_eq_true.1 hsz g (List.mem_range.2 hgs)
        rw [hd'] at this
        simpa using this
      have := yielded_is hd' (by rw [hsize]; exact hds) ((hv2 d hd').trans (h2 _ _ hv1))
      simp [this]
  unfold wpOp
  simp only [hio, hwant, if_true]
  left
  refine OpY.wp ((hstep i o hio a'.eval w' hG (fun _ => rfl) (fun _ => rfl) (fun _ => rfl) ?_ (fun d hd' => hfar d hd')).mono fun v w'' h => hK v w'' h.1 h.2.1 h.2.2)
  intro j d hj hjd
  unfold depsOf at hj
  rw [List.contains_iff_mem, List.mem_map] at hj
  obtain ⟨e, he, rfl⟩ := hj
  obtain ⟨he1, he2⟩ := List.mem_filter.1 he
  obtain ⟨h1, h2⟩ := hv e he1 he2
  rw [h2 d hjd]; exact h1
end
end Go.Proofs.Ytaklfjjkeebheaa
/-
  A region that draws its order, by an invariant over what has been done: each operation is met once, without a frame, whichever others are done. Guards may let pass or not. Said of any program. Nothing of the program.
-/
namespace Go.Proofs.Ytaklfjjkeebheaa
set_option linter.unusedVariables false
open Go
section
variable {P : Program} {ops : Array Oper} {Q : Exit → Act → World → Prop}
/-- What binds stands ahead. -/
def edgesBackB (ops : Array Oper) : Bool := (List.range ops.size).all (fun i => match ops[i]? with | some o => o.after.all fun e => !Region.binds .any e || decide (e.on < i) | none => true) && ops.all (fun o => o.after.all fun e => decide (e.on < ops.size))
theorem all_listedB (h : edgesBackB ops = true) {listed : Array Bool} (hls : listed.size = ops.size) (hr : Region.ready .any ops listed = []) : ∀ n i, i < n → i < ops.size → listed.getD i false = true := by
  unfold edgesBackB at h
  rw [Bool.and_eq_true] at h
  obtain ⟨h, -⟩ := h
  intro n
  induction n with
  | zero => intro i hi; omega
  | succ n ih =>
    intro i hi his
    by_cases hin : i < n
    · exact ih i hin his
    obtain rfl : i = n := by omega
    cases hl : listed.getD i false with
    | true => rfl
    | false =>
      exfalso
      have hils : i < listed.size := by omega
      have hl' : listed.getD i true = false := by simp only [Array.getD, hils, dite_true] at hl ⊢; exact hl
      obtain ⟨o, ho⟩ : ∃ o, ops[i]? = some o := ⟨_, Array.getElem?_eq_getElem his⟩
      have he := List.all_eq_true.1 h i (List.mem_range.2 his)
      rw [ho] at he
      have hm : i ∈ Region.ready .any ops listed := by
        unfold Region.ready
        refine List.mem_filter.2 ⟨List.mem_range.2 his, ?_⟩
        rw [hl', ho]
        simp only [Bool.not_false, Option.map_some, Option.getD_some, Bool.true_and]
        refine Array.all_eq_true_iff_forall_mem.2 fun e hem => ?_
        have h1 := Array.all_eq_true_iff_forall_mem.1 he e hem
        cases hbe : Region.binds .any e with
        | false => rfl
        | true =>
          rw [hbe] at h1
          simp only [Bool.not_true, Bool.false_or, decide_eq_true_eq] at h1
          rw [ih e.on (by omega) (by omega), Bool.or_true]
      rw [hr] at hm
      cases hm
theorem edges_onB (h : edgesBackB ops = true) : ops.all (fun o => o.after.all fun e => decide (e.on < ops.size)) = true := by
  unfold edgesBackB at h
  rw [Bool.and_eq_true] at h
  exact h.2
/-- One operation more is done. -/
def doneL (listed : Nat → Bool) (i : Nat) : Nat → Bool := fun k => if k = i then true else listed k
/-- Its value is kept. -/
def doneV (vals : Nat → Value) (i : Nat) (v : Value) : Nat → Value := fun k => if k = i then v else vals k
/-- What an operation must do, those that it waits for being done. -/
def StepJ (P : Program) (ops : Array Oper) (J : (Nat → Bool) → (Nat → Value) → World → Prop) (a0 : Act) (i : Nat) (o : Oper) : Prop :=
  ∀ (listed : Nat → Bool) (vals : Nat → Value) (w' : World), listed i = false → (∀ j, (depsOf o).contains j = true → listed j = true) → J listed vals w' →
    (∀ (g : Nat) (b : Bool), o.guard = some (g, b) → ∃ b', vals g = .bool b' ∧ (b' ≠ b → J (doneL listed i) (doneV vals i undef) w')) ∧
    ((∀ (g : Nat) (b : Bool), o.guard = some (g, b) → vals g = .bool b) →
      ∀ (ρ : Operand → Value), (∀ v, ρ (.const v) = v) → (∀ g, ρ (.global g) = .pointer (some ⟨g, 0, none⟩)) → (∀ f, ρ (.func f) = .func (.func f) #[] #[]) →
        (∀ j d, (depsOf o).contains j = true → dstOf ops j = some d → ρ (.tmp d) = vals j) → (∀ d, farOf ops d = true → ρ (.tmp d) = a0.eval (.tmp d)) →
        OpY P o ρ w' fun v w'' => J (doneL listed i) (doneV vals i v) w'')
theorem putAll_congr_dst {vals vals' : Nat → Value} {a : Act} : ∀ (n : Nat), (∀ i d, i < n → dstOf ops i = some d → vals i = vals' i) → putAll ops vals (fun _ => true) a n = putAll ops vals' (fun _ => true) a n
  | 0, _ => rfl
  | n + 1, h => by
    have ih := putAll_congr_dst (a := a) n (fun i d hi hd => h i d (by omega) hd)
    simp only [putAll, if_true, ih]
    cases hd : dstOf ops n with
    | none => rfl
    | some d => rw [h n d (by omega) hd]
/-- The same, over a frame. -/
def StepW (P : Program) (ops : Array Oper) (J : (Nat → Bool) → (Nat → Value) → World → Prop) (a0 : Act) (i : Nat) (o : Oper) : Prop :=
  ∀ (listed : Nat → Bool) (vals : Nat → Value) (w' : World), listed i = false → (∀ j, (depsOf o).contains j = true → listed j = true) → J listed vals w' →
    (∀ (g : Nat) (b : Bool), o.guard = some (g, b) → ∃ b', vals g = .bool b' ∧ (b' ≠ b → J (doneL listed i) (doneV vals i undef) w')) ∧
    ((∀ (g : Nat) (b : Bool), o.guard = some (g, b) → vals g = .bool b) →
      ∀ (a' : Act), a'.tmps.size = a0.tmps.size → (∀ j d, (depsOf o).contains j = true → dstOf ops j = some d → a'.eval (.tmp d) = vals j) → (∀ d, farOf ops d = true → a'.eval (.tmp d) = a0.eval (.tmp d)) →
        ∀ (K : Act → World → Prop) (Qp : Exit → Act → World → Prop), (∀ v w'', J (doneL listed i) (doneV vals i v) w'' → K (a'.put o.dst v) w'') → o.wp P a' w' K Qp)
theorem StepJ.toW {J : (Nat → Bool) → (Nat → Value) → World → Prop} {a0 : Act} {i : Nat} {o : Oper} (h : StepJ P ops J a0 i o) : StepW P ops J a0 i o := by
  intro listed vals w' hl hdp hJ
  obtain ⟨h1, h2⟩ := h listed vals w' hl hdp hJ
  refine ⟨h1, fun hg a' hs hr hf K Qp hK => ?_⟩
  exact OpY.wp ((h2 hg a'.eval (fun _ => rfl) (fun _ => rfl) (fun _ => rfl) hr hf).mono fun v w'' hv => hK v w'' hv)
theorem wpAny_inv (hd : dstsApart ops = true) (hng : guardsOk ops = true) (J : (Nat → Bool) → (Nat → Value) → World → Prop) (a0 : Act)
    (hsz : (List.range ops.size).all (fun i => match dstOf ops i with | some d => decide (d < a0.tmps.size) | none => true) = true)
    (hext : ∀ (l l' : Nat → Bool) (v : Nat → Value) w, (∀ i, i < ops.size → l i = l' i) → J l v w → J l' v w)
    (hstep : ∀ i o, ops[i]? = some o → StepW P ops J a0 i o)
    (hdone : ∀ (vals : Nat → Value) w', J (fun _ => true) vals w' → Q .normal (putAll ops vals (fun _ => true) a0 ops.size) w')
    (hon : ops.all (fun o => o.after.all fun e => decide (e.on < ops.size)) = true)
    (hready : ∀ listed : Array Bool, listed.size = ops.size → Region.ready .any ops listed = [] → ∀ i, i < ops.size → listed.getD i false = true) :
    ∀ (fuel : Nat) (listed : Array Bool) (vals : Nat → Value) (w : World), listed.size = ops.size → ((List.range ops.size).filter fun i => !listed.getD i true).length ≤ fuel → J (fun i => listed.getD i false) vals w →
      wpAny P .any ops Q fuel listed (putAll ops vals (fun i => listed.getD i false) a0 ops.size) w := by
  intro fuel
  induction fuel with
  | zero =>
    intro listed vals w hls hf hJ
    have hdn : ∀ i, i < ops.size → listed.getD i false = true := by
      intro i hi
      cases h : listed.getD i false with
      | true => rfl
      | false =>
        have hi' : i < listed.size := by omega
        have h2 : listed.getD i true = false := by simp only [Array.getD, hi', dite_true] at h ⊢; exact h
        have hm : i ∈ (List.range ops.size).filter fun i => !listed.getD i true := List.mem_filter.2 ⟨List.mem_range.2 hi, by simp [h2]⟩
        have : 0 < ((List.range ops.size).filter fun i => !listed.getD i true).length := List.length_pos_of_mem hm
        omega
    have hr : Region.ready .any ops listed = [] := by
      unfold Region.ready
      rw [List.filter_eq_nil_iff]
      intro i hi
      have hi' := List.mem_range.1 hi
      have h1 := hdn i hi'
      have h2 : listed.getD i true = true := by
        have : i < listed.size := by omega
        simp only [Array.getD, this, dite_true] at h1 ⊢; exact h1
      simp [h2]
    refine ⟨hr, ?_⟩
    rw [putAll_congr (vals' := vals) (listed' := fun _ => true) ops.size (fun i hi => ⟨hdn i hi, fun _ => rfl⟩)]
    exact hdone vals w (hext _ _ _ _ (fun i hi => hdn i hi) hJ)
  | succ fuel ih =>
    intro listed vals w hls hf hJ
    refine ⟨fun hr => ?_, fun i hi => ?_⟩
    · have hdn := hready listed hls hr
      rw [putAll_congr (vals' := vals) (listed' := fun _ => true) ops.size (fun i hi => ⟨hdn i hi, fun _ => rfl⟩)]
      exact hdone vals w (hext _ _ _ _ (fun i hi => hdn i hi) hJ)
    · unfold Region.ready at hi
      rw [List.mem_filter, List.mem_range] at hi
      obtain ⟨his, hi2⟩ := hi
      simp only [Bool.and_eq_true, Bool.not_eq_true'] at hi2
      obtain ⟨hil, hi3⟩ := hi2
      obtain ⟨o, ho⟩ : ∃ o, ops[i]? = some o := ⟨_, Array.getElem?_eq_getElem his⟩
      rw [ho] at hi3
      simp only [Option.map_some, Option.getD_some] at hi3
      have hil' : listed.getD i false = false := by
        have : i < listed.size := by omega
        simp only [Array.getD, this, dite_true] at hil ⊢; exact hil
      have hson := Array.all_eq_true_iff_forall_mem.1 hon o (Array.mem_of_getElem? ho)
      have hdeps : ∀ j, (depsOf o).contains j = true → listed.getD j false = true ∧ j < ops.size := by
        intro j hj
        unfold depsOf at hj
        rw [List.contains_iff_mem, List.mem_map] at hj
        obtain ⟨e, he, rfl⟩ := hj
        obtain ⟨he1, he2⟩ := List.mem_filter.1 he
        have h1 := Array.all_eq_true_iff_forall_mem.1 hi3 e (by simpa using he1)
        rw [he2] at h1
        simp only [Bool.not_true, Bool.false_or] at h1
        have := Array.all_eq_true_iff_forall_mem.1 hson e (by simpa using he1)
        exact ⟨h1, by simpa using this⟩
      have hreads : ∀ j d, (depsOf o).contains j = true → dstOf ops j = some d → (putAll ops vals (fun i => listed.getD i false) a0 ops.size).eval (.tmp d) = vals j := by
        intro j d hj hjd
        obtain ⟨h1, h2⟩ := hdeps j hj
        have hds : d < a0.tmps.size := by
          have := List.all_eq_true.1 hsz j (List.mem_range.2 h2)
          rw [hjd] at this
          simpa using this
        exact putAll_eval_at hd hjd h1 hds ops.size h2 (Nat.le_refl _)
      obtain ⟨hs1, hs2⟩ := hstep i o ho _ vals w hil' (fun j hj => (hdeps j hj).1) hJ
      have hgy : ∀ g b, o.guard = some (g, b) → ∀ b', vals g = .bool b' → yielded ops (putAll ops vals (fun i => listed.getD i false) a0 ops.size).tmps g = some b' := by
        intro g b hg b' hv
        have h1 := Array.all_eq_true_iff_forall_mem.1 hng o (Array.mem_of_getElem? ho)
        rw [hg] at h1
        simp only [Bool.and_eq_true, decide_eq_true_eq, Option.isSome_iff_exists] at h1
        obtain ⟨⟨h3, hgs⟩, d, hd'⟩ := h1
        have hds : d < a0.tmps.size := by
          have := List.all_eq_true.1 hsz g (List.mem_range.2 hgs)
          rw [hd'] at this
          simpa using this
        exact yielded_is hd' (by rw [putAll_size]; exact hds) ((hreads g d h3 hd').trans hv)
      have hnext : ∀ v w'', J (doneL (fun i => listed.getD i false) i) (doneV vals i v) w'' →
          wpAny P .any ops Q fuel (listed.setIfInBounds i true) ((putAll ops vals (fun i => listed.getD i false) a0 ops.size).put o.dst v) w'' := by
        intro v w'' hJ'
        have hdo : o.dst = dstOf ops i := by unfold dstOf; rw [ho]; rfl
        rw [hdo, putAll_put hd hil' ops.size his (Nat.le_refl _)]
        have hcg : putAll ops (fun k => if k = i then v else vals k) (fun k => if k = i then true else listed.getD k false) a0 ops.size = putAll ops (fun k => if k = i then v else vals k) (fun k => (listed.setIfInBounds i true).getD k false) a0 ops.size :=
          putAll_congr ops.size (fun k hk => ⟨by rw [setIf_getD (by omega)], fun _ => rfl⟩)
        rw [hcg]
        refine ih (listed.setIfInBounds i true) _ w'' (by simpa using hls) ?_ ?_
        · have hsub : ((List.range ops.size).filter fun k => !(listed.setIfInBounds i true).getD k true).length < ((List.range ops.size).filter fun k => !listed.getD k true).length := by
            have e1 : ((List.range ops.size).filter fun k => !(listed.setIfInBounds i true).getD k true) = ((List.range ops.size).filter fun k => !listed.getD k true).filter fun k => decide (k ≠ i) := by
              rw [List.filter_filter]
              apply List.filter_congr
              intro k hk
              rw [setIf_getD (by omega)]
              by_cases hki : k = i <;> simp [hki]
            rw [e1]
            refine List.length_filter_lt_length_iff_exists.2 ⟨i, List.mem_filter.2 ⟨List.mem_range.2 his, by simp [hil]⟩, by simp⟩
          omega
        · refine hext _ _ _ _ (fun k hk => ?_) hJ'
          rw [setIf_getD (by omega)]
          rfl
      unfold wpOp
      simp only [ho]
      split
      · rename_i hw
        left
        refine hs2 ?_ _ (putAll_size _) hreads (fun d hfar => ?_) _ _ hnext
        · intro g b hg
          obtain ⟨b', hv, -⟩ := hs1 g b hg
          have := hgy g b hg b' hv
          unfold Region.wanted at hw
          rw [hg] at hw
          simp only [this] at hw
          rw [hv]
          simp at hw
          rw [hw]
        · refine putAll_eval_far ops.size (fun j hj => ?_)
          unfold farOf at hfar
          have := List.all_eq_true.1 hfar j (List.mem_range.2 hj)
          simpa using this
      · rename_i hw
        refine hnext _ _ ?_
        unfold Region.wanted at hw
        cases hg : o.guard with
        | none => rw [hg] at hw; simp at hw
        | some gb =>
          obtain ⟨g, b⟩ := gb
          obtain ⟨b', hv, hu⟩ := hs1 g b hg
          rw [hg] at hw
          simp only [hgy g b hg b' hv] at hw
          exact hu (by simpa using hw)
/-- A region that draws its order, by an invariant. -/
theorem wp_region_invW {F : Nat → Oper → Prop} {id : Nat} {a : Act} {w : World} (J : (Nat → Bool) → (Nat → Value) → World → Prop) (hm : P.follows .mixedOrders = true) (hd : dstsApart ops = true) (hb : edgesBackB ops = true) (hng : guardsOk ops = true)
    (hsz : (List.range ops.size).all (fun i => match dstOf ops i with | some d => decide (d < a.tmps.size) | none => true) = true)
    (hext : ∀ (l l' : Nat → Bool) (v : Nat → Value) w, (∀ i, i < ops.size → l i = l' i) → J l v w → J l' v w)
    (h0 : J (fun _ => false) (fun _ => undef) w.drew)
    (hto : ∀ i o, F i o → StepW P ops J a i o)
    (hstep : EachOp F 0 ops.toList)
    (hdone : ∀ (vals : Nat → Value) w', J (fun _ => true) vals w' → Q .normal (putAll ops vals (fun _ => true) a ops.size) w') :
    (Code.region id ops true).wp P Q a w := by
  refine wp_region_any hm ?_
  have hf : ∀ n, (Array.replicate ops.size false).getD n false = false := by
    intro n
    by_cases h : n < ops.size <;> simp [Array.getD, h]
  have hnone : putAll ops (fun _ => undef) (fun i => (Array.replicate ops.size false).getD i false) a ops.size = a := by
    have : ∀ n, putAll ops (fun _ => undef) (fun i => (Array.replicate ops.size false).getD i false) a n = a := by
      intro n
      induction n with
      | zero => rfl
      | succ n ih =>
        have hfn := hf n
        simp only [putAll, hfn, Bool.false_eq_true, if_false]; exact ih
    exact this _
  have := wpAny_inv hd hng J a hsz hext (fun i o hio => by have := EachOp.get hstep i o (by simpa using hio); rw [Nat.zero_add] at this; exact hto i o this) hdone (edges_onB hb)
    (fun listed' h1 h2 i hi => all_listedB hb h1 h2 (i + 1) i (by omega) hi) ops.size (Array.replicate ops.size false) (fun _ => undef) w.drew (by simp) (by
    have := List.length_filter_le (fun i => !(Array.replicate ops.size false).getD i true) (List.range ops.size)
    simpa using this) (hext _ _ _ _ (fun i _ => (hf i).symm) h0)
  rw [hnone] at this
  exact this
/-- The same, the frame behind all operations written out, by what they yield. -/
theorem wp_region_inv' {id : Nat} {a : Act} {aF : (Nat → Value) → Act} {w : World} (J : (Nat → Bool) → (Nat → Value) → World → Prop) (hF : ∀ vals, putAll ops vals (fun _ => true) a ops.size = aF vals) (hm : P.follows .mixedOrders = true) (hd : dstsApart ops = true) (hb : edgesBackB ops = true) (hng : guardsOk ops = true)
    (hsz : (List.range ops.size).all (fun i => match dstOf ops i with | some d => decide (d < a.tmps.size) | none => true) = true)
    (hext : ∀ (l l' : Nat → Bool) (v : Nat → Value) w, (∀ i, i < ops.size → l i = l' i) → J l v w → J l' v w)
    (h0 : J (fun _ => false) (fun _ => undef) w.drew)
    (hstep : EachOp (fun i o => StepJ P ops J a i o) 0 ops.toList)
    (hdone : ∀ (vals : Nat → Value) w', J (fun _ => true) vals w' → Q .normal (aF vals) w') :
    (Code.region id ops true).wp P Q a w :=
  wp_region_invW J hm hd hb hng hsz hext h0 (fun _ _ h => h.toW) hstep fun vals w' h => by rw [hF]; exact hdone vals w' h
/-- A region that draws its order, whose operations' values are known ahead, by an invariant over what has been done. -/
theorem wp_region_valsJ {id : Nat} {a aF : Act} {w : World} (vals : List Value) (J : (Nat → Bool) → World → Prop) (hF : putAll ops (fun i => vals.getD i undef) (fun _ => true) a ops.size = aF) (hm : P.follows .mixedOrders = true) (hd : dstsApart ops = true) (hb : edgesBackB ops = true) (hdep : depsOk ops = true) (hsel : Region.noSelect ops = true) (hng : guardsOk ops = true)
    (hgv : ops.all (fun o => match o.guard with | some (g, _) => (match vals.getD g undef with | .bool _ => true | _ => false) | none => true) = true)
    (hsz : (List.range ops.size).all (fun i => match dstOf ops i with | some d => decide (d < a.tmps.size) | none => true) = true)
    (hext : ∀ (l l' : Nat → Bool) w, (∀ i, i < ops.size → l i = l' i) → J l w → J l' w)
    (h0 : J (fun _ => false) w.drew)
    (hstep : EachOp (fun i o => ∀ l w', l i = false → (∀ j, (depsOf o).contains j = true → l j = true) → J l w' →
      if Region.wanted o (yielded ops aF.tmps) = true then OpAt P o aF (vals.getD i undef) (J (doneL l i)) w' else vals.getD i undef = undef ∧ J (doneL l i) w') 0 ops.toList)
    (hdone : ∀ w', J (fun _ => true) w' → Q .normal aF w') :
    (Code.region id ops true).wp P Q a w := by
  subst hF
  refine wp_region_invW (F := fun i o => ops[i]? = some o ∧ ∀ l w', l i = false → (∀ j, (depsOf o).contains j = true → l j = true) → J l w' →
      if Region.wanted o (yielded ops (putAll ops (fun i => vals.getD i undef) (fun _ => true) a ops.size).tmps) = true then OpAt P o (putAll ops (fun i => vals.getD i undef) (fun _ => true) a ops.size) (vals.getD i undef) (J (doneL l i)) w' else vals.getD i undef = undef ∧ J (doneL l i) w')
    (fun l v w => J l w ∧ ∀ j d, l j = true → dstOf ops j = some d → v j = vals.getD j undef) hm hd hb hng hsz (fun l l' v w h hJ => ⟨hext l l' w h hJ.1, fun j d hj hjd => hJ.2 j d ?_ hjd⟩) ⟨h0, fun j d h => by cases h⟩ ?_ ?_ ?_
  · have hjs : j < ops.size := by
      rcases Nat.lt_or_ge j ops.size with h | h
      · exact h
      · unfold dstOf at hjd; rw [Array.getElem?_eq_none h] at hjd; simp at hjd
    rw [h j hjs]; exact hj
  · rintro i o ⟨hio, hst⟩ listed v w' hl hdp ⟨hJ, hv⟩
    have his : i < ops.size := (Array.getElem?_eq_some_iff.1 hio).1
    have hdo : dstOf ops i = o.dst := by unfold dstOf; rw [hio]; rfl
    have hdep1 := List.all_eq_true.1 hdep i (List.mem_range.2 his)
    rw [hio] at hdep1
    simp only at hdep1
    have hst := hst listed w' hl hdp hJ
    have hdone : ∀ x, (o.dst = none ∨ x = vals.getD i undef) → ∀ j d, doneL listed i j = true → dstOf ops j = some d → doneV v i x j = vals.getD j undef := by
      intro x hx j d hj hjd
      unfold doneL at hj
      unfold doneV
      by_cases hji : j = i
      · subst hji
        rw [if_pos rfl]
        rcases hx with hx | hx
        · rw [hdo, hx] at hjd; cases hjd
        · exact hx
      · rw [if_neg hji] at hj ⊢
        exact hv j d hj hjd
    have hgb : ∀ g b, o.guard = some (g, b) → ∃ b' d, vals.getD g undef = .bool b' ∧ dstOf ops g = some d ∧ d < a.tmps.size ∧ (depsOf o).contains g = true := by
      intro g b hg
      have h1 := Array.all_eq_true_iff_forall_mem.1 hng o (Array.mem_of_getElem? hio)
      have h2 := Array.all_eq_true_iff_forall_mem.1 hgv o (Array.mem_of_getElem? hio)
      rw [hg] at h1 h2
      simp only [Bool.and_eq_true, decide_eq_true_eq, Option.isSome_iff_exists] at h1
      obtain ⟨⟨h3, hgs⟩, d, hd'⟩ := h1
      have hds : d < a.tmps.size := by
        have := List.all_eq_true.1 hsz g (List.mem_range.2 hgs)
        rw [hd'] at this
        simpa using this
      simp only at h2
      split at h2
      · rename_i b' hb'
        exact ⟨b', d, hb', hd', hds, h3⟩
      · cases h2
    have hgs : ∀ g, (∃ b, o.guard = some (g, b)) → g < ops.size := by
      rintro g ⟨b, hg⟩
      have h1 := Array.all_eq_true_iff_forall_mem.1 hng o (Array.mem_of_getElem? hio)
      rw [hg] at h1
      simp only [Bool.and_eq_true, decide_eq_true_eq] at h1
      exact h1.1.2
    have hwv : Region.wanted o (yielded ops (putAll ops (fun i => vals.getD i undef) (fun _ => true) a ops.size).tmps) = true ↔ ∀ g b, o.guard = some (g, b) → vals.getD g undef = .bool b := by
      unfold Region.wanted
      cases hg : o.guard with
      | none => simp
      | some gb =>
        obtain ⟨g, b⟩ := gb
        obtain ⟨b', d, h1, h2, h3, h4⟩ := hgb g b hg
        have hy := yielded_is (a' := putAll ops (fun i => vals.getD i undef) (fun _ => true) a ops.size) (b := b') h2 (by rw [putAll_size]; exact h3) ((putAll_eval_at hd h2 rfl h3 ops.size (hgs g ⟨b, hg⟩) (Nat.le_refl _)).trans h1)
        simp only [hy]
        constructor
        · intro h g' b2 h'
          obtain ⟨rfl, rfl⟩ := Prod.mk.inj (Option.some.inj h')
          rw [h1]
          simp at h
          rw [h]
        · intro h
          have := (h g b rfl).symm.trans h1
          injection this with this
          simp [this]
    refine ⟨fun g b hg => ?_, fun hgt a' hs hr hf K Qp hK => ?_⟩
    · obtain ⟨b', d, h1, h2, h3, h4⟩ := hgb g b hg
      refine ⟨b', (hv g d (hdp g h4) h2).trans h1, fun hne => ?_⟩
      have hwf : ¬ Region.wanted o (yielded ops (putAll ops (fun i => vals.getD i undef) (fun _ => true) a ops.size).tmps) = true := by
        rw [hwv]
        intro h
        have := h1.symm.trans (h g b hg)
        injection this with this
        exact hne this
      rw [if_neg hwf] at hst
      exact ⟨hst.2, hdone undef (Or.inr hst.1.symm)⟩
    · have hwt : Region.wanted o (yielded ops (putAll ops (fun i => vals.getD i undef) (fun _ => true) a ops.size).tmps) = true := by
        rw [hwv]
        intro g b hg
        obtain ⟨b', d, h1, h2, h3, h4⟩ := hgb g b hg
        rw [← hv g d (hdp g h4) h2]
        exact hgt g b hg
      rw [if_pos hwt] at hst
      have look : ∀ t, t ∈ o.looksAt ops → a'.eval (.tmp t) = (putAll ops (fun i => vals.getD i undef) (fun _ => true) a ops.size).eval (.tmp t) := by
        intro t ht
        have h1 := List.all_eq_true.1 hdep1 t ht
        by_cases hx : ∃ j, j < ops.size ∧ dstOf ops j = some t
        · obtain ⟨j, hj, hjt⟩ := hx
          have h2 := List.all_eq_true.1 h1 j (List.mem_range.2 hj)
          rw [hjt] at h2
          simp only [bne_self_eq_false, Bool.false_or] at h2
          have hjd : (depsOf o).contains j = true := by
            obtain ⟨e, he, hbe⟩ := List.any_eq_true.1 h2
            simp only [Bool.and_eq_true, beq_iff_eq] at hbe
            unfold depsOf
            rw [List.contains_iff_mem, List.mem_map]
            exact ⟨e, List.mem_filter.2 ⟨he, hbe.1⟩, hbe.2⟩
          have hts : t < a.tmps.size := by
            have := List.all_eq_true.1 hsz j (List.mem_range.2 hj)
            rw [hjt] at this
            simpa using this
          rw [hr j t hjd hjt, hv j t (hdp j hjd) hjt, putAll_eval_at hd hjt rfl hts ops.size hj (Nat.le_refl _)]
        · have hall : farOf ops t = true := by
            refine List.all_eq_true.2 fun j hj => ?_
            rw [bne_iff_ne]
            exact fun e => hx ⟨j, List.mem_range.1 hj, e⟩
          rw [hf t hall, putAll_eval_far ops.size (fun j hj e => hx ⟨j, hj, e⟩)]
      have hexec : execOp a'.eval o = execOp (putAll ops (fun i => vals.getD i undef) (fun _ => true) a ops.size).eval o := by
        refine execOp_congr o (Region.noSelect_spec hsel i o · · hio) fun x hx => ?_
        cases x with
        | tmp t => exact look t (List.mem_append_left _ (List.mem_filterMap.2 ⟨.tmp t, by simpa using hx, rfl⟩))
        | const c => rfl
        | global g => rfl
        | func f => rfl
      unfold Oper.wp
      rw [hexec]
      refine upon_transfer' (aL := putAll ops (fun i => vals.getD i undef) (fun _ => true) a ops.size) (R := fun x w'' => (o.dst = none ∨ x = vals.getD i undef) ∧ J (doneL listed i) w'') ?_ ?_ fun x w'' h => hK _ _ ⟨h.2, hdone x h.1⟩
      · intro d hdd
        rw [putAll_size]
        have := List.all_eq_true.1 hsz i (List.mem_range.2 his)
        rw [hdo, hdd] at this
        simpa using this
      · exact hst _ _ fun w'' h => ⟨_, rfl, Or.inr rfl, h⟩
  · have : ∀ (l : List Oper) (n : Nat), (∀ k o, l[k]? = some o → ops[n + k]? = some o) → EachOp (fun i o => ∀ l w', l i = false → (∀ j, (depsOf o).contains j = true → l j = true) → J l w' →
        if Region.wanted o (yielded ops (putAll ops (fun i => vals.getD i undef) (fun _ => true) a ops.size).tmps) = true then OpAt P o (putAll ops (fun i => vals.getD i undef) (fun _ => true) a ops.size) (vals.getD i undef) (J (doneL l i)) w' else vals.getD i undef = undef ∧ J (doneL l i) w') n l → EachOp (fun i o => ops[i]? = some o ∧ ∀ l w', l i = false → (∀ j, (depsOf o).contains j = true → l j = true) → J l w' →
        if Region.wanted o (yielded ops (putAll ops (fun i => vals.getD i undef) (fun _ => true) a ops.size).tmps) = true then OpAt P o (putAll ops (fun i => vals.getD i undef) (fun _ => true) a ops.size) (vals.getD i undef) (J (doneL l i)) w' else vals.getD i undef = undef ∧ J (doneL l i) w') n l := by
      intro l
      induction l with
      | nil => intro n _ _; trivial
      | cons x l ih =>
        intro n hk h
        refine ⟨⟨by simpa using hk 0 x rfl, h.1⟩, ih (n + 1) (fun k o ho => ?_) h.2⟩
        have := hk (k + 1) o (by simpa using ho)
        have e : n + 1 + k = n + (k + 1) := by omega
        rw [e]; exact this
    exact this ops.toList 0 (fun k o h => by simpa using h) hstep
  · intro v w' h
    rw [putAll_congr_dst (vals' := fun i => vals.getD i undef) ops.size (fun i d hi hid => h.2 i d rfl hid)]
    exact hdone w' h.1
end
end Go.Proofs.Ytaklfjjkeebheaa
/-
  A region that draws its order, whose operations' values are known ahead (some of them not wanted), said operation by operation without a frame. And a region of two stores. Said of any program. Nothing of the program.
-/
namespace Go.Proofs.Ytaklfjjkeebheaa
set_option linter.unusedVariables false
open Go
section
variable {P : Program} {ops : Array Oper} {Q : Exit → Act → World → Prop}
/-- A value that is wanted only if not. -/
def WF (s : Bool) (x : Value) : Value := match s with | true => undef | false => x
/-- A value that is wanted only if so. -/
def WT (s : Bool) (x : Value) : Value := match s with | true => x | false => undef
def GuardK (K : Nat → Value) (i : Nat) (o : Oper) : Prop := ∀ (g : Nat) (b : Bool), o.guard = some (g, b) → ∃ b', K g = .bool b' ∧ (b' ≠ b → K i = undef)
/-- What an operation must do. -/
def StepK (P : Program) (ops : Array Oper) (K : Nat → Value) (G : World → Prop) (a0 : Act) (i : Nat) (o : Oper) : Prop :=
  GuardK K i o ∧ ∀ w', G w' → (∀ (g : Nat) (b : Bool), o.guard = some (g, b) → K g = .bool b) →
    ∀ (ρ : Operand → Value), (∀ v, ρ (.const v) = v) → (∀ g, ρ (.global g) = .pointer (some ⟨g, 0, none⟩)) → (∀ f, ρ (.func f) = .func (.func f) #[] #[]) →
      (∀ j d, (depsOf o).contains j = true → dstOf ops j = some d → ρ (.tmp d) = K j) → (∀ d, farOf ops d = true → ρ (.tmp d) = a0.eval (.tmp d)) →
      OpY P o ρ w' fun v w'' => (o.dst = none ∨ v = K i) ∧ G w''
theorem wp_region_known {id : Nat} {a aF : Act} {w : World} (K : Nat → Value) (G : World → Prop) (hF : putAll ops K (fun _ => true) a ops.size = aF) (hm : P.follows .mixedOrders = true) (hd : dstsApart ops = true) (hb : edgesBackB ops = true) (hng : guardsOk ops = true)
    (hsz : (List.range ops.size).all (fun i => match dstOf ops i with | some d => decide (d < a.tmps.size) | none => true) = true)
    (h0 : G w.drew)
    (hstep : EachOp (fun i o => StepK P ops K G a i o) 0 ops.toList)
    (hdone : ∀ w', G w' → Q .normal aF w') :
    (Code.region id ops true).wp P Q a w := by
  subst hF
  have hall : ∀ (l : List Oper) (n : Nat), (∀ k o, l[k]? = some o → ops[n + k]? = some o) → EachOp (fun i o => StepK P ops K G a i o) n l → EachOp (fun i o => ops[i]? = some o ∧ StepK P ops K G a i o) n l := by
    intro l
    induction l with
    | nil => intro n _ _; trivial
    | cons x l ih =>
      intro n hk h
      refine ⟨⟨by simpa using hk 0 x rfl, h.1⟩, ih (n + 1) (fun k o ho => ?_) h.2⟩
      have := hk (k + 1) o (by simpa using ho)
      have e : n + 1 + k = n + (k + 1) := by omega
      rw [e]; exact this
  refine wp_region_invW (F := fun i o => ops[i]? = some o ∧ StepK P ops K G a i o) (fun l v w => G w ∧ ∀ j d, l j = true → dstOf ops j = some d → v j = K j) hm hd hb hng hsz
    (fun l l' v w h hJ => ⟨hJ.1, fun j d hj hjd => hJ.2 j d ?_ hjd⟩) ⟨h0, fun j d h => by cases h⟩ ?_ (hall ops.toList 0 (fun k o h => by simpa using h) hstep) ?_
  · have hjs : j < ops.size := by
      rcases Nat.lt_or_ge j ops.size with h | h
      · exact h
      · unfold dstOf at hjd; rw [Array.getElem?_eq_none h] at hjd; simp at hjd
    rw [h j hjs]; exact hj
  · rintro i o ⟨hio, hgk, hst⟩
    refine StepJ.toW ?_
    intro l v w' hl hdp hJ
    obtain ⟨hG, hv⟩ := hJ
    have hdo : dstOf ops i = o.dst := by unfold dstOf; rw [hio]; rfl
    have hnx : ∀ x, (o.dst = none ∨ x = K i) → ∀ j d, doneL l i j = true → dstOf ops j = some d → doneV v i x j = K j := by
      intro x hx j d hj hjd
      unfold doneL at hj
      unfold doneV
      by_cases hji : j = i
      · subst hji
        rw [if_pos rfl]
        rcases hx with hx | hx
        · rw [hdo, hx] at hjd; cases hjd
        · exact hx
      · rw [if_neg hji] at hj ⊢
        exact hv j d hj hjd
    have hgv : ∀ g b, o.guard = some (g, b) → v g = K g := by
      intro g b hg
      have h1 := Array.all_eq_true_iff_forall_mem.1 hng o (Array.mem_of_getElem? hio)
      rw [hg] at h1
      simp only [Bool.and_eq_true, decide_eq_true_eq, Option.isSome_iff_exists] at h1
      obtain ⟨⟨h3, -⟩, d, hd'⟩ := h1
      exact hv g d (hdp g h3) hd'
    refine ⟨fun g b hg => ?_, fun hg ρ h1 h2 h3 h4 h5 => ?_⟩
    · obtain ⟨b', hb1, hb2⟩ := hgk g b hg
      exact ⟨b', (hgv g b hg).trans hb1, fun hne => ⟨hG, hnx undef (Or.inr (hb2 hne).symm)⟩⟩
    · refine (hst w' hG (fun g b h => (hgv g b h).symm.trans (hg g b h)) ρ h1 h2 h3 (fun j d hj hjd => ?_) h5).mono fun x w'' h => ⟨h.2, hnx x h.1⟩
      rw [h4 j d hj hjd]
      exact hv j d (hdp j hj) hjd
  · intro v w' h
    rw [putAll_congr_dst (vals' := K) ops.size (fun i d hi hid => h.2 i d rfl hid)]
    exact hdone w' h.1
/-- Two stores, one behind the other. -/
structure TwoSt (W0 : World) (b p q : Nat) (x y : Value) (m n : Nat) (l : Nat → Bool) (w' : World) : Prop where
  ord : l n = true → l m = true
  is : w' = if l n = true then ((W0.setCell ⟨b, p, none⟩ x).setCell ⟨b, q, none⟩ y) else if l m = true then W0.setCell ⟨b, p, none⟩ x else W0
variable {W0 w' : World} {b p q m n : Nat} {x y : Value} {l : Nat → Bool}
theorem TwoSt.ext {k : Nat} {l' : Nat → Bool} (hm : m < k) (hn : n < k) (h : ∀ i, i < k → l i = l' i) (H : TwoSt W0 b p q x y m n l w') : TwoSt W0 b p q x y m n l' w' where
  ord h1 := by rw [← h m hm]; exact H.ord (by rw [h n hn]; exact h1)
  is := by rw [← h m hm, ← h n hn]; exact H.is
theorem TwoSt.start : TwoSt W0 b p q x y m n (fun _ => false) W0 where
  ord h := by cases h
  is := rfl
theorem TwoSt.other (i : Nat) (h1 : i ≠ m) (h2 : i ≠ n) (H : TwoSt W0 b p q x y m n l w') : TwoSt W0 b p q x y m n (doneL l i) w' where
  ord h := by
    unfold doneL at h ⊢
    rw [if_neg (Ne.symm h1)]; rw [if_neg (Ne.symm h2)] at h
    exact H.ord h
  is := by
    unfold doneL
    rw [if_neg (Ne.symm h1), if_neg (Ne.symm h2)]
    exact H.is
theorem TwoSt.first (hne : m ≠ n) (hl : l m = false) (H : TwoSt W0 b p q x y m n l w') : w' = W0 ∧ TwoSt W0 b p q x y m n (doneL l m) (W0.setCell ⟨b, p, none⟩ x) := by
  have hn : l n = false := by
    cases h : l n with
    | false => rfl
    | true => rw [H.ord h] at hl; cases hl
  refine ⟨by rw [H.is, hl, hn]; rfl, ?_, ?_⟩
  · intro _; unfold doneL; rw [if_pos rfl]
  · unfold doneL
    rw [if_pos rfl, if_neg (Ne.symm hne), hn]; rfl
theorem TwoSt.second (hne : m ≠ n) (hm : l m = true) (hl : l n = false) (H : TwoSt W0 b p q x y m n l w') : w' = W0.setCell ⟨b, p, none⟩ x ∧ TwoSt W0 b p q x y m n (doneL l n) ((W0.setCell ⟨b, p, none⟩ x).setCell ⟨b, q, none⟩ y) := by
  refine ⟨by rw [H.is, hm, hl]; rfl, ?_, ?_⟩
  · intro _; unfold doneL; rw [if_neg hne]; exact hm
  · unfold doneL
    rw [if_pos rfl]; rfl
theorem TwoSt.done (H : TwoSt W0 b p q x y m n (fun _ => true) w') : w' = ((W0.setCell ⟨b, p, none⟩ x).setCell ⟨b, q, none⟩ y) := H.is
end
end Go.Proofs.Ytaklfjjkeebheaa
/-
  A region that draws its order, of whose operations' values something is known that stays true (they may depend on the run), some of them not wanted; said operation by operation without a frame. Said of any program. Nothing of the program.
-/
namespace Go.Proofs.Ytaklfjjkeebheaa
set_option linter.unusedVariables false
open Go
section
variable {P : Program} {ops : Array Oper} {Q : Exit → Act → World → Prop}
def GuardV (V : Nat → Value → World → Prop) (i : Nat) (o : Oper) : Prop := ∀ (g : Nat) (b : Bool), o.guard = some (g, b) → ∃ b', (∀ v w, V g v w → v = .bool b') ∧ (b' ≠ b → ∀ w, V i undef w)
/-- What an operation must do. -/
def StepV (P : Program) (ops : Array Oper) (V : Nat → Value → World → Prop) (G : World → Prop) (Gr : World → World → Prop) (a0 : Act) (i : Nat) (o : Oper) : Prop :=
  GuardV V i o ∧ ∀ w', G w' → (∀ (g : Nat) (b : Bool), o.guard = some (g, b) → ∀ v w, V g v w → v = .bool b) →
    ∀ (ρ : Operand → Value), (∀ v, ρ (.const v) = v) → (∀ g, ρ (.global g) = .pointer (some ⟨g, 0, none⟩)) → (∀ f, ρ (.func f) = .func (.func f) #[] #[]) →
      (∀ j d, (depsOf o).contains j = true → dstOf ops j = some d → V j (ρ (.tmp d)) w') → (∀ d, farOf ops d = true → ρ (.tmp d) = a0.eval (.tmp d)) →
      OpY P o ρ w' fun v w'' => V i v w'' ∧ G w'' ∧ Gr w' w''
theorem wp_region_knownV {id : Nat} {a : Act} {aF : (Nat → Value) → Act} {w : World} (V : Nat → Value → World → Prop) (G : World → Prop) (Gr : World → World → Prop) (hF : ∀ vals, putAll ops vals (fun _ => true) a ops.size = aF vals) (hm : P.follows .mixedOrders = true) (hd : dstsApart ops = true) (hb : edgesBackB ops = true) (hng : guardsOk ops = true)
    (hsz : (List.range ops.size).all (fun i => match dstOf ops i with | some d => decide (d < a.tmps.size) | none => true) = true)
    (hstab : ∀ i v w w', V i v w → Gr w w' → V i v w')
    (h0 : G w.drew)
    (hstep : EachOp (fun i o => StepV P ops V G Gr a i o) 0 ops.toList)
    (hdone : ∀ (vals : Nat → Value) w', G w' → (∀ i, i < ops.size → V i (vals i) w') → Q .normal (aF vals) w') :
    (Code.region id ops true).wp P Q a w := by
  have hall : ∀ (l : List Oper) (n : Nat), (∀ k o, l[k]? = some o → ops[n + k]? = some o) → EachOp (fun i o => StepV P ops V G Gr a i o) n l → EachOp (fun i o => ops[i]? = some o ∧ StepV P ops V G Gr a i o) n l := by
    intro l
    induction l with
    | nil => intro n _ _; trivial
    | cons x l ih =>
      intro n hk h
      refine ⟨⟨by simpa using hk 0 x rfl, h.1⟩, ih (n + 1) (fun k o ho => ?_) h.2⟩
      have := hk (k + 1) o (by simpa using ho)
      have e : n + 1 + k = n + (k + 1) := by omega
      rw [e]; exact this
  refine wp_region_invW (F := fun i o => ops[i]? = some o ∧ StepV P ops V G Gr a i o) (fun l v w => G w ∧ ∀ j, j < ops.size → l j = true → V j (v j) w) hm hd hb hng hsz
    (fun l l' v w h hJ => ⟨hJ.1, fun j hj hl => hJ.2 j hj (by rw [h j hj]; exact hl)⟩) ⟨h0, fun j _ h => by cases h⟩ ?_ (hall ops.toList 0 (fun k o h => by simpa using h) hstep) ?_
  · rintro i o ⟨hio, hgk, hst⟩
    refine StepJ.toW ?_
    intro l v w' hl hdp hJ
    obtain ⟨hG, hv⟩ := hJ
    have his : i < ops.size := (Array.getElem?_eq_some_iff.1 hio).1
    have hlt : ∀ j, (depsOf o).contains j = true → j < ops.size := by
      intro j hj
      have h1 := Array.all_eq_true_iff_forall_mem.1 (edges_onB hb) o (Array.mem_of_getElem? hio)
      unfold depsOf at hj
      rw [List.contains_iff_mem, List.mem_map] at hj
      obtain ⟨e, he, rfl⟩ := hj
      have := Array.all_eq_true_iff_forall_mem.1 h1 e (by simpa using (List.mem_filter.1 he).1)
      simpa using this
    have hnx : ∀ x w'', V i x w'' → G w'' → (∀ j, j < ops.size → l j = true → V j (v j) w'') → (G w'' ∧ ∀ j, j < ops.size → doneL l i j = true → V j (doneV v i x j) w'') := by
      intro x w'' hx hG' hall'
      refine ⟨hG', fun j hj hlj => ?_⟩
      unfold doneL at hlj
      unfold doneV
      by_cases hji : j = i
      · subst hji; rw [if_pos rfl]; exact hx
      · rw [if_neg hji] at hlj ⊢; exact hall' j hj hlj
    have hgd : ∀ g b, o.guard = some (g, b) → (depsOf o).contains g = true := by
      intro g b hg
      have h1 := Array.all_eq_true_iff_forall_mem.1 hng o (Array.mem_of_getElem? hio)
      rw [hg] at h1
      simp only [Bool.and_eq_true] at h1
      exact h1.1.1
    refine ⟨fun g b hg => ?_, fun hg ρ h1 h2 h3 h4 h5 => ?_⟩
    · obtain ⟨b', hb1, hb2⟩ := hgk g b hg
      have hgv := hb1 _ _ (hv g (hlt g (hgd g b hg)) (hdp g (hgd g b hg)))
      exact ⟨b', hgv, fun hne => hnx undef w' (hb2 hne w') hG hv⟩
    · refine (hst w' hG (fun g b h v0 w0 hv0 => ?_) ρ h1 h2 h3 (fun j d hj hjd => ?_) h5).mono fun x w'' h => hnx x w'' h.1 h.2.1 (fun j hj hlj => hstab j _ _ _ (hv j hj hlj) h.2.2)
      · obtain ⟨b', hb1, -⟩ := hgk g b h
        have e1 := hb1 _ _ (hv g (hlt g (hgd g b h)) (hdp g (hgd g b h)))
        have e2 := hg g b h
        rw [e1] at e2
        rw [hb1 _ _ hv0, e2]
      · rw [h4 j d hj hjd]
        exact hv j (hlt j hj) (hdp j hj)
  · intro v w' h
    rw [hF]
    exact hdone v w' h.1 (fun i hi => h.2 i hi rfl)
end
end Go.Proofs.Ytaklfjjkeebheaa
/-
  A region that draws its order, whose operations' values are known ahead (some of them not wanted), by an invariant over what has been done, said operation by operation without a frame. Said of any program. Nothing of the program.
-/
namespace Go.Proofs.Ytaklfjjkeebheaa
set_option linter.unusedVariables false
open Go
section
variable {P : Program} {ops : Array Oper} {Q : Exit → Act → World → Prop}
/-- What an operation must do. -/
def StepKJ (P : Program) (ops : Array Oper) (K : Nat → Value) (J : (Nat → Bool) → World → Prop) (a0 : Act) (i : Nat) (o : Oper) : Prop :=
  (∀ (g : Nat) (b : Bool), o.guard = some (g, b) → ∃ b', K g = .bool b' ∧ (b' ≠ b → K i = undef ∧ ∀ l w', l i = false → (∀ j, (depsOf o).contains j = true → l j = true) → J l w' → J (doneL l i) w')) ∧
  ∀ l w', l i = false → (∀ j, (depsOf o).contains j = true → l j = true) → J l w' → (∀ (g : Nat) (b : Bool), o.guard = some (g, b) → K g = .bool b) →
    ∀ (ρ : Operand → Value), (∀ v, ρ (.const v) = v) → (∀ g, ρ (.global g) = .pointer (some ⟨g, 0, none⟩)) → (∀ f, ρ (.func f) = .func (.func f) #[] #[]) →
      (∀ j d, (depsOf o).contains j = true → dstOf ops j = some d → ρ (.tmp d) = K j) → (∀ d, farOf ops d = true → ρ (.tmp d) = a0.eval (.tmp d)) →
      OpY P o ρ w' fun v w'' => (o.dst = none ∨ v = K i) ∧ J (doneL l i) w''
theorem wp_region_knownJ {id : Nat} {a aF : Act} {w : World} (K : Nat → Value) (J : (Nat → Bool) → World → Prop) (hF : putAll ops K (fun _ => true) a ops.size = aF) (hm : P.follows .mixedOrders = true) (hd : dstsApart ops = true) (hb : edgesBackB ops = true) (hng : guardsOk ops = true)
    (hsz : (List.range ops.size).all (fun i => match dstOf ops i with | some d => decide (d < a.tmps.size) | none => true) = true)
    (hext : ∀ (l l' : Nat → Bool) w, (∀ i, i < ops.size → l i = l' i) → J l w → J l' w)
    (h0 : J (fun _ => false) w.drew)
    (hstep : EachOp (fun i o => StepKJ P ops K J a i o) 0 ops.toList)
    (hdone : ∀ w', J (fun _ => true) w' → Q .normal aF w') :
    (Code.region id ops true).wp P Q a w := by
  subst hF
  have hall : ∀ (l : List Oper) (n : Nat), (∀ k o, l[k]? = some o → ops[n + k]? = some o) → EachOp (fun i o => StepKJ P ops K J a i o) n l → EachOp (fun i o => ops[i]? = some o ∧ StepKJ P ops K J a i o) n l := by
    intro l
    induction l with
    | nil => intro n _ _; trivial
    | cons x l ih =>
      intro n hk h
      refine ⟨⟨by simpa using hk 0 x rfl, h.1⟩, ih (n + 1) (fun k o ho => ?_) h.2⟩
      have := hk (k + 1) o (by simpa using ho)
      have e : n + 1 + k = n + (k + 1) := by omega
      rw [e]; exact this
  refine wp_region_invW (F := fun i o => ops[i]? = some o ∧ StepKJ P ops K J a i o) (fun l v w => J l w ∧ ∀ j d, l j = true → dstOf ops j = some d → v j = K j) hm hd hb hng hsz
    (fun l l' v w h hJ => ⟨hext l l' w h hJ.1, fun j d hj hjd => hJ.2 j d ?_ hjd⟩) ⟨h0, fun j d h => by cases h⟩ ?_ (hall ops.toList 0 (fun k o h => by simpa using h) hstep) ?_
  · have hjs : j < ops.size := by
      rcases Nat.lt_or_ge j ops.size with h | h
      · exact h
      · unfold dstOf at hjd; rw [Array.getElem?_eq_none h] at hjd; simp at hjd
    rw [h j hjs]; exact hj
  · rintro i o ⟨hio, hgk, hst⟩
    refine StepJ.toW ?_
    intro l v w' hl hdp hJ
    obtain ⟨hG, hv⟩ := hJ
    have hdo : dstOf ops i = o.dst := by unfold dstOf; rw [hio]; rfl
    have hnx : ∀ x, (o.dst = none ∨ x = K i) → ∀ j d, doneL l i j = true → dstOf ops j = some d → doneV v i x j = K j := by
      intro x hx j d hj hjd
      unfold doneL at hj
      unfold doneV
      by_cases hji : j = i
      · subst hji
        rw [if_pos rfl]
        rcases hx with hx | hx
        · rw [hdo, hx] at hjd; cases hjd
        · exact hx
      · rw [if_neg hji] at hj ⊢
        exact hv j d hj hjd
    have hgv : ∀ g b, o.guard = some (g, b) → v g = K g := by
      intro g b hg
      have h1 := Array.all_eq_true_iff_forall_mem.1 hng o (Array.mem_of_getElem? hio)
      rw [hg] at h1
      simp only [Bool.and_eq_true, decide_eq_true_eq, Option.isSome_iff_exists] at h1
      obtain ⟨⟨h3, -⟩, d, hd'⟩ := h1
      exact hv g d (hdp g h3) hd'
    refine ⟨fun g b hg => ?_, fun hg ρ h1 h2 h3 h4 h5 => ?_⟩
    · obtain ⟨b', hb1, hb2⟩ := hgk g b hg
      exact ⟨b', (hgv g b hg).trans hb1, fun hne => ⟨(hb2 hne).2 l w' hl hdp hG, hnx undef (Or.inr (hb2 hne).1.symm)⟩⟩
    · refine (hst l w' hl hdp hG (fun g b h => (hgv g b h).symm.trans (hg g b h)) ρ h1 h2 h3 (fun j d hj hjd => ?_) h5).mono fun x w'' h => ⟨h.2, hnx x h.1⟩
      rw [h4 j d hj hjd]
      exact hv j d (hdp j hj) hjd
  · intro v w' h
    rw [putAll_congr_dst (vals' := K) ops.size (fun i d hi hid => h.2 i d rfl hid)]
    exact hdone w' h.1
end
end Go.Proofs.Ytaklfjjkeebheaa
/-
  As Reg8, for regions that read a slot which a later operation of theirs writes: before that the slot holds what it held ahead. Said of any program. Nothing of the program.
-/
namespace Go.Proofs.Ytaklfjjkeebheaa
set_option linter.unusedVariables false
open Go
section
variable {P : Program} {ops : Array Oper} {Q : Exit → Act → World → Prop}
theorem putAll_eval_undone {vals : Nat → Value} {listed : Nat → Bool} {a : Act} {d : Tmp} : ∀ (n : Nat), (∀ j, j < n → dstOf ops j = some d → listed j = false) → (putAll ops vals listed a n).eval (.tmp d) = a.eval (.tmp d)
  | 0, _ => rfl
  | n + 1, h => by
    simp only [putAll]
    split
    · rename_i hl
      rw [eval_put_other (fun hd => by rw [h n (by omega) hd] at hl; cases hl)]
      exact putAll_eval_undone n (fun j hj => h j (by omega))
    · exact putAll_eval_undone n (fun j hj => h j (by omega))
def StepW9 (P : Program) (ops : Array Oper) (J : (Nat → Bool) → (Nat → Value) → World → Prop) (a0 : Act) (i : Nat) (o : Oper) : Prop :=
  ∀ (listed : Nat → Bool) (vals : Nat → Value) (w' : World), listed i = false → (∀ j, (depsOf o).contains j = true → listed j = true) → J listed vals w' →
    (∀ (g : Nat) (b : Bool), o.guard = some (g, b) → ∃ b', vals g = .bool b' ∧ (b' ≠ b → J (doneL listed i) (doneV vals i undef) w')) ∧
    ((∀ (g : Nat) (b : Bool), o.guard = some (g, b) → vals g = .bool b) →
      ∀ (a' : Act), a'.tmps.size = a0.tmps.size → (∀ j d, (depsOf o).contains j = true → dstOf ops j = some d → a'.eval (.tmp d) = vals j) → (∀ d, (∀ j, dstOf ops j = some d → listed j = false) → a'.eval (.tmp d) = a0.eval (.tmp d)) →
        ∀ (K : Act → World → Prop) (Qp : Exit → Act → World → Prop), (∀ v w'', J (doneL listed i) (doneV vals i v) w'' → K (a'.put o.dst v) w'') → o.wp P a' w' K Qp)
theorem wpAny_inv9 (hd : dstsApart ops = true) (hng : guardsOk ops = true) (J : (Nat → Bool) → (Nat → Value) → World → Prop) (a0 : Act)
    (hsz : (List.range ops.size).all (fun i => match dstOf ops i with | some d => decide (d < a0.tmps.size) | none => true) = true)
    (hext : ∀ (l l' : Nat → Bool) (v : Nat → Value) w, (∀ i, i < ops.size → l i = l' i) → J l v w → J l' v w)
    (hstep : ∀ i o, ops[i]? = some o → StepW9 P ops J a0 i o)
    (hdone : ∀ (vals : Nat → Value) w', J (fun _ => true) vals w' → Q .normal (putAll ops vals (fun _ => true) a0 ops.size) w')
    (hon : ops.all (fun o => o.after.all fun e => decide (e.on < ops.size)) = true)
    (hready : ∀ listed : Array Bool, listed.size = ops.size → Region.ready .any ops listed = [] → ∀ i, i < ops.size → listed.getD i false = true) :
    ∀ (fuel : Nat) (listed : Array Bool) (vals : Nat → Value) (w : World), listed.size = ops.size → ((List.range ops.size).filter fun i => !listed.getD i true).length ≤ fuel → J (fun i => listed.getD i false) vals w →
      wpAny P .any ops Q fuel listed (putAll ops vals (fun i => listed.getD i false) a0 ops.size) w := by
  intro fuel
  induction fuel with
  | zero =>
    intro listed vals w hls hf hJ
    have hdn : ∀ i, i < ops.size → listed.getD i false = true := by
      intro i hi
      cases h : listed.getD i false with
      | true => rfl
      | false =>
        have hi' : i < listed.size := by omega
        have h2 : listed.getD i true = false := by simp only [Array.getD, hi', dite_true] at h ⊢; exact h
        have hm : i ∈ (List.range ops.size).filter fun i => !listed.getD i true := List.mem_filter.2 ⟨List.mem_range.2 hi, by simp [h2]⟩
        have : 0 < ((List.range ops.size).filter fun i => !listed.getD i true).length := List.length_pos_of_mem hm
        omega
    have hr : Region.ready .any ops listed = [] := by
      unfold Region.ready
      rw [List.filter_eq_nil_iff]
      intro i hi
      have hi' := List.mem_range.1 hi
      have h1 := hdn i hi'
      have h2 : listed.getD i true = true := by
        have : i < listed.size := by omega
        simp only [Array.getD, this, dite_true] at h1 ⊢; exact h1
      simp [h2]
    refine ⟨hr, ?_⟩
    rw [putAll_congr (vals' := vals) (listed' := fun _ => true) ops.size (fun i hi => ⟨hdn i hi, fun _ => rfl⟩)]
    exact hdone vals w (hext _ _ _ _ (fun i hi => hdn i hi) hJ)
  | succ fuel ih =>
    intro listed vals w hls hf hJ
    refine ⟨fun hr => ?_, fun i hi => ?_⟩
    · have hdn := hready listed hls hr
      rw [putAll_congr (vals' := vals) (listed' := fun _ => true) ops.size (fun i hi => ⟨hdn i hi, fun _ => rfl⟩)]
      exact hdone vals w (hext _ _ _ _ (fun i hi => hdn i hi) hJ)
    · unfold Region.ready at hi
      rw [List.mem_filter, List.mem_range] at hi
      obtain ⟨his, hi2⟩ := hi
      simp only [Bool.and_eq_true, Bool.not_eq_true'] at hi2
      obtain ⟨hil, hi3⟩ := hi2
      obtain ⟨o, ho⟩ : ∃ o, ops[i]? = some o := ⟨_, Array.getElem?_eq_getElem his⟩
      rw [ho] at hi3
      simp only [Option.map_some, Option.getD_some] at hi3
      have hil' : listed.getD i false = false := by
        have : i < listed.size := by omega
        simp only [Array.getD, this, dite_true] at hil ⊢; exact hil
      have hson := Array.all_eq_true_iff_forall_mem.1 hon o (Array.mem_of_getElem? ho)
      have hdeps : ∀ j, (depsOf o).contains j = true → listed.getD j false = true ∧ j < ops.size := by
        intro j hj
        unfold depsOf at hj
        rw [List.contains_iff_mem, List.mem_map] at hj
        obtain ⟨e, he, rfl⟩ := hj
        obtain ⟨he1, he2⟩ := List.mem_filter.1 he
        have h1 := Array.all_eq_true_iff_forall_mem.1 hi3 e (by simpa using he1)
        rw [he2] at h1
        simp only [Bool.not_true, Bool.false_or] at h1
        have := Array.all_eq_true_iff_forall_mem.1 hson e (by simpa using he1)
        exact ⟨h1, by simpa using this⟩
      have hreads : ∀ j d, (depsOf o).contains j = true → dstOf ops j = some d → (putAll ops vals (fun i => listed.getD i false) a0 ops.size).eval (.tmp d) = vals j := by
        intro j d hj hjd
        obtain ⟨h1, h2⟩ := hdeps j hj
        have hds : d < a0.tmps.size := by
          have := List.all_eq_true.1 hsz j (List.mem_range.2 h2)
          rw [hjd] at this
          simpa using this
        exact putAll_eval_at hd hjd h1 hds ops.size h2 (Nat.le_refl _)
      obtain ⟨hs1, hs2⟩ := hstep i o ho _ vals w hil' (fun j hj => (hdeps j hj).1) hJ
      have hgy : ∀ g b, o.guard = some (g, b) → ∀ b', vals g = .bool b' → yielded ops (putAll ops vals (fun i => listed.getD i false) a0 ops.size).tmps g = some b' := by
        intro g b hg b' hv
        have h1 := Array.all_eq_true_iff_forall_mem.1 hng o (Array.mem_of_getElem? ho)
        rw [hg] at h1
        simp only [Bool.and_eq_true, decide_eq_true_eq, Option.isSome_iff_exists] at h1
        obtain ⟨⟨h3, hgs⟩, d, hd'⟩ := h1
        have hds : d < a0.tmps.size := by
          have := List.all_eq_true.1 hsz g (List.mem_range.2 hgs)
          rw [hd'] at this
          simpa using this
        exact yielded_is hd' (by rw [putAll_size]; exact hds) ((hreads g d h3 hd').trans hv)
      have hnext : ∀ v w'', J (doneL (fun i => listed.getD i false) i) (doneV vals i v) w'' →
          wpAny P .any ops Q fuel (listed.setIfInBounds i true) ((putAll ops vals (fun i => listed.getD i false) a0 ops.size).put o.dst v) w'' := by
        intro v w'' hJ'
        have hdo : o.dst = dstOf ops i := by unfold dstOf; rw [ho]; rfl
        rw [hdo, putAll_put hd hil' ops.size his (Nat.le_refl _)]
        have hcg : putAll ops (fun k => if k = i then v else vals k) (fun k => if k = i then true else listed.getD k false) a0 ops.size = putAll ops (fun k => if k = i then v else vals k) (fun k => (listed.setIfInBounds i true).getD k false) a0 ops.size :=
          putAll_congr ops.size (fun k hk => ⟨by rw [setIf_getD (by omega)], fun _ => rfl⟩)
        rw [hcg]
        refine ih (listed.setIfInBounds i true) _ w'' (by simpa using hls) ?_ ?_
        · have hsub : ((List.range ops.size).filter fun k => !(listed.setIfInBounds i true).getD k true).length < ((List.range ops.size).filter fun k => !listed.getD k true).length := by
            have e1 : ((List.range ops.size).filter fun k => !(listed.setIfInBounds i true).getD k true) = ((List.range ops.size).filter fun k => !listed.getD k true).filter fun k => decide (k ≠ i) := by
              rw [List.filter_filter]
              apply List.filter_congr
              intro k hk
              rw [setIf_getD (by omega)]
              by_cases hki : k = i <;> simp [hki]
            rw [e1]
            refine List.length_filter_lt_length_iff_exists.2 ⟨i, List.mem_filter.2 ⟨List.mem_range.2 his, by simp [hil]⟩, by simp⟩
          omega
        · refine hext _ _ _ _ (fun k hk => ?_) hJ'
          rw [setIf_getD (by omega)]
          rfl
      unfold wpOp
      simp only [ho]
      split
      · rename_i hw
        left
        refine hs2 ?_ _ (putAll_size _) hreads (fun d hfar => ?_) _ _ hnext
        · intro g b hg
          obtain ⟨b', hv, -⟩ := hs1 g b hg
          have := hgy g b hg b' hv
          unfold Region.wanted at hw
          rw [hg] at hw
          simp only [this] at hw
          rw [hv]
          simp at hw
          rw [hw]
        · exact putAll_eval_undone ops.size (fun j _ hjd => hfar j hjd)
      · rename_i hw
        refine hnext _ _ ?_
        unfold Region.wanted at hw
        cases hg : o.guard with
        | none => rw [hg] at hw; simp at hw
        | some gb =>
          obtain ⟨g, b⟩ := gb
          obtain ⟨b', hv, hu⟩ := hs1 g b hg
          rw [hg] at hw
          simp only [hgy g b hg b' hv] at hw
          exact hu (by simpa using hw)
theorem wp_region_invW9 {F : Nat → Oper → Prop} {id : Nat} {a : Act} {w : World} (J : (Nat → Bool) → (Nat → Value) → World → Prop) (hm : P.follows .mixedOrders = true) (hd : dstsApart ops = true) (hb : edgesBackB ops = true) (hng : guardsOk ops = true)
    (hsz : (List.range ops.size).all (fun i => match dstOf ops i with | some d => decide (d < a.tmps.size) | none => true) = true)
    (hext : ∀ (l l' : Nat → Bool) (v : Nat → Value) w, (∀ i, i < ops.size → l i = l' i) → J l v w → J l' v w)
    (h0 : J (fun _ => false) (fun _ => undef) w.drew)
    (hto : ∀ i o, F i o → StepW9 P ops J a i o)
    (hstep : EachOp F 0 ops.toList)
    (hdone : ∀ (vals : Nat → Value) w', J (fun _ => true) vals w' → Q .normal (putAll ops vals (fun _ => true) a ops.size) w') :
    (Code.region id ops true).wp P Q a w := by
  refine wp_region_any hm ?_
  have hf : ∀ n, (Array.replicate ops.size false).getD n false = false := by
    intro n
    by_cases h : n < ops.size <;> simp [Array.getD, h]
  have hnone : putAll ops (fun _ => undef) (fun i => (Array.replicate ops.size false).getD i false) a ops.size = a := by
    have : ∀ n, putAll ops (fun _ => undef) (fun i => (Array.replicate ops.size false).getD i false) a n = a := by
      intro n
      induction n with
      | zero => rfl
      | succ n ih =>
        have hfn := hf n
        simp only [putAll, hfn, Bool.false_eq_true, if_false]; exact ih
    exact this _
  have := wpAny_inv9 hd hng J a hsz hext (fun i o hio => by have := EachOp.get hstep i o (by simpa using hio); rw [Nat.zero_add] at this; exact hto i o this) hdone (edges_onB hb)
    (fun listed' h1 h2 i hi => all_listedB hb h1 h2 (i + 1) i (by omega) hi) ops.size (Array.replicate ops.size false) (fun _ => undef) w.drew (by simp) (by
    have := List.length_filter_le (fun i => !(Array.replicate ops.size false).getD i true) (List.range ops.size)
    simpa using this) (hext _ _ _ _ (fun i _ => (hf i).symm) h0)
  rw [hnone] at this
  exact this
/-- What an operation must do. -/
def StepKJ9 (P : Program) (ops : Array Oper) (K : Nat → Value) (J : (Nat → Bool) → World → Prop) (a0 : Act) (i : Nat) (o : Oper) : Prop :=
  (∀ (g : Nat) (b : Bool), o.guard = some (g, b) → ∃ b', K g = .bool b' ∧ (b' ≠ b → K i = undef ∧ ∀ l w', l i = false → (∀ j, (depsOf o).contains j = true → l j = true) → J l w' → J (doneL l i) w')) ∧
  ∀ l w', l i = false → (∀ j, (depsOf o).contains j = true → l j = true) → J l w' → (∀ (g : Nat) (b : Bool), o.guard = some (g, b) → K g = .bool b) →
    ∀ (ρ : Operand → Value), (∀ v, ρ (.const v) = v) → (∀ g, ρ (.global g) = .pointer (some ⟨g, 0, none⟩)) → (∀ f, ρ (.func f) = .func (.func f) #[] #[]) →
      (∀ j d, (depsOf o).contains j = true → dstOf ops j = some d → ρ (.tmp d) = K j) → (∀ d, (∀ j, dstOf ops j = some d → l j = false) → ρ (.tmp d) = a0.eval (.tmp d)) →
      OpY P o ρ w' fun v w'' => (o.dst = none ∨ v = K i) ∧ J (doneL l i) w''
theorem wp_region_knownJ9 {id : Nat} {a aF : Act} {w : World} (K : Nat → Value) (J : (Nat → Bool) → World → Prop) (hF : putAll ops K (fun _ => true) a ops.size = aF) (hm : P.follows .mixedOrders = true) (hd : dstsApart ops = true) (hb : edgesBackB ops = true) (hng : guardsOk ops = true)
    (hsz : (List.range ops.size).all (fun i => match dstOf ops i with | some d => decide (d < a.tmps.size) | none => true) = true)
    (hext : ∀ (l l' : Nat → Bool) w, (∀ i, i < ops.size → l i = l' i) → J l w → J l' w)
    (h0 : J (fun _ => false) w.drew)
    (hstep : EachOp (fun i o => StepKJ9 P ops K J a i o) 0 ops.toList)
    (hdone : ∀ w', J (fun _ => true) w' → Q .normal aF w') :
    (Code.region id ops true).wp P Q a w := by
  subst hF
  have hall : ∀ (l : List Oper) (n : Nat), (∀ k o, l[k]? = some o → ops[n + k]? = some o) → EachOp (fun i o => StepKJ9 P ops K J a i o) n l → EachOp (fun i o => ops[i]? = some o ∧ StepKJ9 P ops K J a i o) n l := by
    intro l
    induction l with
    | nil => intro n _ _; trivial
    | cons x l ih =>
      intro n hk h
      refine ⟨⟨by simpa using hk 0 x rfl, h.1⟩, ih (n + 1) (fun k o ho => ?_) h.2⟩
      have := hk (k + 1) o (by simpa using ho)
      have e : n + 1 + k = n + (k + 1) := by omega
      rw [e]; exact this
  refine wp_region_invW9 (F := fun i o => ops[i]? = some o ∧ StepKJ9 P ops K J a i o) (fun l v w => J l w ∧ ∀ j d, l j = true → dstOf ops j = some d → v j = K j) hm hd hb hng hsz
    (fun l l' v w h hJ => ⟨hext l l' w h hJ.1, fun j d hj hjd => hJ.2 j d ?_ hjd⟩) ⟨h0, fun j d h => by cases h⟩ ?_ (hall ops.toList 0 (fun k o h => by simpa using h) hstep) ?_
  · have hjs : j < ops.size := by
      rcases Nat.lt_or_ge j ops.size with h | h
      · exact h
      · unfold dstOf at hjd; rw [Array.getElem?_eq_none h] at hjd; simp at hjd
    rw [h j hjs]; exact hj
  · rintro i o ⟨hio, hgk, hst⟩
    intro l v w' hl hdp hJ
    obtain ⟨hG, hv⟩ := hJ
    have hdo : dstOf ops i = o.dst := by unfold dstOf; rw [hio]; rfl
    have hnx : ∀ x, (o.dst = none ∨ x = K i) → ∀ j d, doneL l i j = true → dstOf ops j = some d → doneV v i x j = K j := by
      intro x hx j d hj hjd
      unfold doneL at hj
      unfold doneV
      by_cases hji : j = i
      · subst hji
        rw [if_pos rfl]
        rcases hx with hx | hx
        · rw [hdo, hx] at hjd; cases hjd
        · exact hx
      · rw [if_neg hji] at hj ⊢
        exact hv j d hj hjd
    have hgv : ∀ g b, o.guard = some (g, b) → v g = K g := by
      intro g b hg
      have h1 := Array.all_eq_true_iff_forall_mem.1 hng o (Array.mem_of_getElem? hio)
      rw [hg] at h1
      simp only [Bool.and_eq_true, decide_eq_true_eq, Option.isSome_iff_exists] at h1
      obtain ⟨⟨h3, -⟩, d, hd'⟩ := h1
      exact hv g d (hdp g h3) hd'
    refine ⟨fun g b hg => ?_, fun hg a' hs hr hf K2 Qp hK => ?_⟩
    · obtain ⟨b', hb1, hb2⟩ := hgk g b hg
      exact ⟨b', (hgv g b hg).trans hb1, fun hne => ⟨(hb2 hne).2 l w' hl hdp hG, hnx undef (Or.inr (hb2 hne).1.symm)⟩⟩
    · refine OpY.wp ((hst l w' hl hdp hG (fun g b h => (hgv g b h).symm.trans (hg g b h)) a'.eval (fun _ => rfl) (fun _ => rfl) (fun _ => rfl) (fun j d hj hjd => ?_) hf).mono fun x w'' h => hK x w'' ⟨h.2, hnx x h.1⟩)
      rw [hr j d hj hjd]
      exact hv j d (hdp j hj) hjd
  · intro v w' h
    rw [putAll_congr_dst (vals' := K) ops.size (fun i d hi hid => h.2 i d rfl hid)]
    exact hdone w' h.1
end
end Go.Proofs.Ytaklfjjkeebheaa
