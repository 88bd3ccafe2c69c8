/-
  Regions that draw their order, in a round of a range over a function: the rules of Reg5 to Reg9 there too. Said of any program. Nothing of the program.
-/
import Derived.Test.YtaklfjjkeebheaaPbR
import Derived.OrdersIn
import Derived.RangeFuncCalls
import Derived.TacticsInMore
namespace Go.Proofs.Ytaklfjjkeebheaa
set_option linter.unusedVariables false
open Go Go.RowKit
theorem rows_round {P : Program} {row : String} {args : Array Value} {w : World} {R : Value → World → Prop} (l n : Nat) (h : Rows P row args w R) : RowsIn (Fence.wide.inRound l) n P row args w R :=
  fun c cs _ => let ⟨v, w', r, s⟩ := h c cs; ⟨v, w', r, stepsIn_wide.2 s⟩
def noDefer (ops : Array Oper) : Bool := ops.all fun o => match o.op with | .defer _ => false | _ => true
variable {P : Program} {ops : Array Oper} {Q : Exit → Act → World → Prop}
theorem wpIn_of_wp_round {o : Oper} {a : Act} {w : World} {K : Act → World → Prop} {l n : Nat} (hnd : ∀ c, o.op ≠ .defer c) (h : o.wp P a w K Q) : o.wpIn (Fence.wide.inRound l) n P a w K Q := by
  refine ⟨fun _ _ => trivial, ?_⟩
  show o.uponIn _ n P a K Q ((o.semAt (some l) a.eval).run P w)
  rw [Oper.semAt_some l a.eval o hnd]
  unfold Oper.wp at h
  generalize (execOp a.eval o).run P w = r at h ⊢
  cases r with
  | ok x w' =>
    cases x with
    | value v => exact h
    | skip => exact h
    | defer d => exact h
    | enter f args =>
      exact ⟨(fun e => Bool.noConfusion e), (CallsIn.inRound l (callsIn_wide.2 h)).mono (fun e w'' he => by cases e <;> exact he)⟩
    | row rw args => exact ⟨(fun e => Bool.noConfusion e), rows_round l _ h⟩
    | _ => exact h.elim
  | halt x w' => cases x <;> exact h
theorem wpAnyIn_of {l n : Nat} {md : Region.Mode} (hnd : noDefer ops = true) (hq : ¬ LetsOut Q) : ∀ (fuel : Nat) (listed : Array Bool) (a : Act) (w : World), wpAny P md ops Q fuel listed a w → wpAnyIn (Fence.wide.inRound l) n P md ops Q fuel listed a w
  | 0, listed, a, w, h => h
  | fuel + 1, listed, a, w, h => by
    refine ⟨h.1, fun i hi => ?_⟩
    have h' := h.2 i hi
    unfold wpOp at h'
    unfold wpOpIn
    cases ho : ops[i]? with
    | none => rw [ho] at h'; exact wpAnyIn_of hnd hq fuel _ _ _ h'
    | some o =>
      rw [ho] at h'
      dsimp only at h' ⊢
      have hno : ∀ c, o.op ≠ .defer c := by
        intro c hc
        have := Array.all_eq_true_iff_forall_mem.1 hnd o (Array.mem_of_getElem? ho)
        rw [hc] at this
        cases this
      split
      · rename_i hw
        rw [if_pos hw] at h'
        rcases h' with h' | h'
        · exact wpIn_of_wp_round hno (Oper.wp_mono (fun a w hh => wpAnyIn_of hnd hq fuel _ a w hh) h')
        · exact absurd h'.2 hq
      · rename_i hw
        rw [if_neg hw] at h'
        exact ⟨fun _ _ => trivial, wpAnyIn_of hnd hq fuel _ _ _ h'⟩
theorem wp_round_any {id l n : Nat} {a : Act} {w : World} (hm : P.follows .mixedOrders = true) (hnd : noDefer ops = true) (hq : ¬ LetsOut Q)
    (h : wpAny P .any ops Q ops.size (Array.replicate ops.size false) a { w with drawn := w.drawn + 1 }) : (Code.region id ops true).wpIn (Fence.wide.inRound l) n P Q a w :=
  wpIn_region_any hm (wpAnyIn_of hnd hq _ _ _ _ h)
theorem wp_round_invW {F : Nat → Oper → Prop} {id lp nn : Nat} {a : Act} {w : World} (J : (Nat → Bool) → (Nat → Value) → World → Prop) (hm : P.follows .mixedOrders = true) (hnd : noDefer ops = true) (hq : ¬ LetsOut Q) (hd : dstsApart ops = true) (hb : edgesBackB ops = true) (hng : guardsOk ops = true)
    (hsz : (List.range ops.size).all (fun i => match dstOf ops i with | some d => decide (d < a.tmps.size) | none => true) = true)
    (hext : ∀ (l l' : Nat → Bool) (v : Nat → Value) w, (∀ i, i < ops.size → l i = l' i) → J l v w → J l' v w)
    (h0 : J (fun _ => false) (fun _ => undef) w.drew)
    (hto : ∀ i o, F i o → StepW P ops J a i o)
    (hstep : EachOp F 0 ops.toList)
    (hdone : ∀ (vals : Nat → Value) w', J (fun _ => true) vals w' → Q .normal (putAll ops vals (fun _ => true) a ops.size) w') :
    (Code.region id ops true).wpIn (Fence.wide.inRound lp) nn P Q a w := by
  refine wp_round_any hm hnd hq ?_
  have hf : ∀ n, (Array.replicate ops.size false).getD n false = false := by
    intro n
    by_cases h : n < ops.size <;> simp [Array.getD, h]
  have hnone : putAll ops (fun _ => undef) (fun i => (Array.replicate ops.size false).getD i false) a ops.size = a := by
    have : ∀ n, putAll ops (fun _ => undef) (fun i => (Array.replicate ops.size false).getD i false) a n = a := by
      intro n
      induction n with
      | zero => rfl
      | succ n ih =>
        have hfn := hf n
        simp only [putAll, hfn, Bool.false_eq_true, if_false]; exact ih
    exact this _
  have := wpAny_inv hd hng J a hsz hext (fun i o hio => by have := EachOp.get hstep i o (by simpa using hio); rw [Nat.zero_add] at this; exact hto i o this) hdone (edges_onB hb)
    (fun listed' h1 h2 i hi => all_listedB hb h1 h2 (i + 1) i (by omega) hi) ops.size (Array.replicate ops.size false) (fun _ => undef) w.drew (by simp) (by
    have := List.length_filter_le (fun i => !(Array.replicate ops.size false).getD i true) (List.range ops.size)
    simpa using this) (hext _ _ _ _ (fun i _ => (hf i).symm) h0)
  rw [hnone] at this
  exact this
theorem wp_round_inv' {id lp nn : Nat} {a : Act} {aF : (Nat → Value) → Act} {w : World} (J : (Nat → Bool) → (Nat → Value) → World → Prop) (hF : ∀ vals, putAll ops vals (fun _ => true) a ops.size = aF vals) (hm : P.follows .mixedOrders = true) (hnd : noDefer ops = true) (hq : ¬ LetsOut Q) (hd : dstsApart ops = true) (hb : edgesBackB ops = true) (hng : guardsOk ops = true)
    (hsz : (List.range ops.size).all (fun i => match dstOf ops i with | some d => decide (d < a.tmps.size) | none => true) = true)
    (hext : ∀ (l l' : Nat → Bool) (v : Nat → Value) w, (∀ i, i < ops.size → l i = l' i) → J l v w → J l' v w)
    (h0 : J (fun _ => false) (fun _ => undef) w.drew)
    (hstep : EachOp (fun i o => StepJ P ops J a i o) 0 ops.toList)
    (hdone : ∀ (vals : Nat → Value) w', J (fun _ => true) vals w' → Q .normal (aF vals) w') :
    (Code.region id ops true).wpIn (Fence.wide.inRound lp) nn P Q a w :=
  wp_round_invW J hm hnd hq hd hb hng hsz hext h0 (fun _ _ h => h.toW) hstep fun vals w' h => by rw [hF]; exact hdone vals w' h
theorem wp_round_valsJ {id lp nn : Nat} {a aF : Act} {w : World} (vals : List Value) (J : (Nat → Bool) → World → Prop) (hF : putAll ops (fun i => vals.getD i undef) (fun _ => true) a ops.size = aF) (hm : P.follows .mixedOrders = true) (hnd : noDefer ops = true) (hq : ¬ LetsOut Q) (hd : dstsApart ops = true) (hb : edgesBackB ops = true) (hdep : depsOk ops = true) (hsel : Region.noSelect ops = true) (hng : guardsOk ops = true)
    (hgv : ops.all (fun o => match o.guard with | some (g, _) => (match vals.getD g undef with | .bool _ => true | _ => false) | none => true) = true)
    (hsz : (List.range ops.size).all (fun i => match dstOf ops i with | some d => decide (d < a.tmps.size) | none => true) = true)
    (hext : ∀ (l l' : Nat → Bool) w, (∀ i, i < ops.size → l i = l' i) → J l w → J l' w)
    (h0 : J (fun _ => false) w.drew)
    (hstep : EachOp (fun i o => ∀ l w', l i = false → (∀ j, (depsOf o).contains j = true → l j = true) → J l w' →
      if Region.wanted o (yielded ops aF.tmps) = true then OpAt P o aF (vals.getD i undef) (J (doneL l i)) w' else vals.getD i undef = undef ∧ J (doneL l i) w') 0 ops.toList)
    (hdone : ∀ w', J (fun _ => true) w' → Q .normal aF w') :
    (Code.region id ops true).wpIn (Fence.wide.inRound lp) nn P Q a w := by
  subst hF
  refine wp_round_invW (F := fun i o => ops[i]? = some o ∧ ∀ l w', l i = false → (∀ j, (depsOf o).contains j = true → l j = true) → J l w' →
      if Region.wanted o (yielded ops (putAll ops (fun i => vals.getD i undef) (fun _ => true) a ops.size).tmps) = true then OpAt P o (putAll ops (fun i => vals.getD i undef) (fun _ => true) a ops.size) (vals.getD i undef) (J (doneL l i)) w' else vals.getD i undef = undef ∧ J (doneL l i) w')
    (fun l v w => J l w ∧ ∀ j d, l j = true → dstOf ops j = some d → v j = vals.getD j undef) hm hnd hq hd hb hng hsz (fun l l' v w h hJ => ⟨hext l l' w h hJ.1, fun j d hj hjd => hJ.2 j d ?_ hjd⟩) ⟨h0, fun j d h => by cases h⟩ ?_ ?_ ?_
  · have hjs : j < ops.size := by
      rcases Nat.lt_or_ge j ops.size with h | h
      · exact h
      · unfold dstOf at hjd; rw [Array.getElem?_eq_none h] at hjd; simp at hjd
    rw [h j hjs]; exact hj
  · rintro i o ⟨hio, hst⟩ listed v w' hl hdp ⟨hJ, hv⟩
    have his : i < ops.size := (Array.getElem?_eq_some_iff.1 hio).1
    have hdo : dstOf ops i = o.dst := by unfold dstOf; rw [hio]; rfl
    have hdep1 := List.all_eq_true.1 hdep i (List.mem_range.2 his)
    rw [hio] at hdep1
    simp only at hdep1
    have hst := hst listed w' hl hdp hJ
    have hdone : ∀ x, (o.dst = none ∨ x = vals.getD i undef) → ∀ j d, doneL listed i j = true → dstOf ops j = some d → doneV v i x j = vals.getD j undef := by
      intro x hx j d hj hjd
      unfold doneL at hj
      unfold doneV
      by_cases hji : j = i
      · subst hji
        rw [if_pos rfl]
        rcases hx with hx | hx
        · rw [hdo, hx] at hjd; cases hjd
        · exact hx
      · rw [if_neg hji] at hj ⊢
        exact hv j d hj hjd
    have hgb : ∀ g b, o.guard = some (g, b) → ∃ b' d, vals.getD g undef = .bool b' ∧ dstOf ops g = some d ∧ d < a.tmps.size ∧ (depsOf o).contains g = true := by
      intro g b hg
      have h1 := Array.all_eq_true_iff_forall_mem.1 hng o (Array.mem_of_getElem? hio)
      have h2 := Array.all_eq_true_iff_forall_mem.1 hgv o (Array.mem_of_getElem? hio)
      rw [hg] at h1 h2
      simp only [Bool.and_eq_true, decide_eq_true_eq, Option.isSome_iff_exists] at h1
      obtain ⟨⟨h3, hgs⟩, d, hd'⟩ := h1
      have hds : d < a.tmps.size := by
        have := List.all_eq_true.1 hsz g (List.mem_range.2 hgs)
        rw [hd'] at this
        simpa using this
      simp only at h2
      split at h2
      · rename_i b' hb'
        exact ⟨b', d, hb', hd', hds, h3⟩
      · cases h2
    have hgs : ∀ g, (∃ b, o.guard = some (g, b)) → g < ops.size := by
      rintro g ⟨b, hg⟩
      have h1 := Array.all_eq_true_iff_forall_mem.1 hng o (Array.mem_of_getElem? hio)
      rw [hg] at h1
      simp only [Bool.and_eq_true, decide_eq_true_eq] at h1
      exact h1.1.2
    have hwv : Region.wanted o (yielded ops (putAll ops (fun i => vals.getD i undef) (fun _ => true) a ops.size).tmps) = true ↔ ∀ g b, o.guard = some (g, b) → vals.getD g undef = .bool b := by
      unfold Region.wanted
      cases hg : o.guard with
      | none => simp
      | some gb =>
        obtain ⟨g, b⟩ := gb
        obtain ⟨b', d, h1, h2, h3, h4⟩ := hgb g b hg
        have hy := yielded_is (a' := putAll ops (fun i => vals.getD i undef) (fun _ => true) a ops.size) (b := b') h2 (by rw [putAll_size]; exact h3) ((putAll_eval_at hd h2 rfl h3 ops.size (hgs g ⟨b, hg⟩) (Nat.le_refl _)).trans h1)
        simp only [hy]
        constructor
        · intro h g' b2 h'
          obtain ⟨rfl, rfl⟩ := Prod.mk.inj (Option.some.inj h')
          rw [h1]
          simp at h
          rw [h]
        · intro h
          have := (h g b rfl).symm.trans h1
          injection this with this
          simp [this]
    refine ⟨fun g b hg => ?_, fun hgt a' hs hr hf K Qp hK => ?_⟩
    · obtain ⟨b', d, h1, h2, h3, h4⟩ := hgb g b hg
      refine ⟨b', (hv g d (hdp g h4) h2).trans h1, fun hne => ?_⟩
      have hwf : ¬ Region.wanted o (yielded ops (putAll ops (fun i => vals.getD i undef) (fun _ => true) a ops.size).tmps) = true := by
        rw [hwv]
        intro h
        have := h1.symm.trans (h g b hg)
        injection this with this
        exact hne this
      rw [if_neg hwf] at hst
      exact ⟨hst.2, hdone undef (Or.inr hst.1.symm)⟩
    · have hwt : Region.wanted o (yielded ops (putAll ops (fun i => vals.getD i undef) (fun _ => true) a ops.size).tmps) = true := by
        rw [hwv]
        intro g b hg
        obtain ⟨b', d, h1, h2, h3, h4⟩ := hgb g b hg
        rw [← hv g d (hdp g h4) h2]
        exact hgt g b hg
      rw [if_pos hwt] at hst
      have look : ∀ t, t ∈ o.looksAt ops → a'.eval (.tmp t) = (putAll ops (fun i => vals.getD i undef) (fun _ => true) a ops.size).eval (.tmp t) := by
        intro t ht
        have h1 := List.all_eq_true.1 hdep1 t ht
        by_cases hx : ∃ j, j < ops.size ∧ dstOf ops j = some t
        · obtain ⟨j, hj, hjt⟩ := hx
          have h2 := List.all_eq_true.1 h1 j (List.mem_range.2 hj)
          rw [hjt] at h2
          simp only [bne_self_eq_false, Bool.false_or] at h2
          have hjd : (depsOf o).contains j = true := by
            obtain ⟨e, he, hbe⟩ := List.any_eq_true.1 h2
            simp only [Bool.and_eq_true, beq_iff_eq] at hbe
            unfold depsOf
            rw [List.contains_iff_mem, List.mem_map]
            exact ⟨e, List.mem_filter.2 ⟨he, hbe.1⟩, hbe.2⟩
          have hts : t < a.tmps.size := by
            have := List.all_eq_true.1 hsz j (List.mem_range.2 hj)
            rw [hjt] at this
            simpa using this
          rw [hr j t hjd hjt, hv j t (hdp j hjd) hjt, putAll_eval_at hd hjt rfl hts ops.size hj (Nat.le_refl _)]
        · have hall : farOf ops t = true := by
            refine List.all_eq_true.2 fun j hj => ?_
            rw [bne_iff_ne]
            exact fun e => hx ⟨j, List.mem_range.1 hj, e⟩
          rw [hf t hall, putAll_eval_far ops.size (fun j hj e => hx ⟨j, hj, e⟩)]
      have hexec : execOp a'.eval o = execOp (putAll ops (fun i => vals.getD i undef) (fun _ => true) a ops.size).eval o := by
        refine execOp_congr o (Region.noSelect_spec hsel i o · · hio) fun x hx => ?_
        cases x with
        | tmp t => exact look t (List.mem_append_left _ (List.mem_filterMap.2 ⟨.tmp t, by simpa using hx, rfl⟩))
        | const c => rfl
        | global g => rfl
        | func f => rfl
      unfold Oper.wp
      rw [hexec]
      refine upon_transfer' (aL := putAll ops (fun i => vals.getD i undef) (fun _ => true) a ops.size) (R := fun x w'' => (o.dst = none ∨ x = vals.getD i undef) ∧ J (doneL listed i) w'') ?_ ?_ fun x w'' h => hK _ _ ⟨h.2, hdone x h.1⟩
      · intro d hdd
        rw [putAll_size]
        have := List.all_eq_true.1 hsz i (List.mem_range.2 his)
        rw [hdo, hdd] at this
        simpa using this
      · exact hst _ _ fun w'' h => ⟨_, rfl, Or.inr rfl, h⟩
  · have : ∀ (l : List Oper) (n : Nat), (∀ k o, l[k]? = some o → ops[n + k]? = some o) → EachOp (fun i o => ∀ l w', l i = false → (∀ j, (depsOf o).contains j = true → l j = true) → J l w' →
        if Region.wanted o (yielded ops (putAll ops (fun i => vals.getD i undef) (fun _ => true) a ops.size).tmps) = true then OpAt P o (putAll ops (fun i => vals.getD i undef) (fun _ => true) a ops.size) (vals.getD i undef) (J (doneL l i)) w' else vals.getD i undef = undef ∧ J (doneL l i) w') n l → EachOp (fun i o => ops[i]? = some o ∧ ∀ l w', l i = false → (∀ j, (depsOf o).contains j = true → l j = true) → J l w' →
        if Region.wanted o (yielded ops (putAll ops (fun i => vals.getD i undef) (fun _ => true) a ops.size).tmps) = true then OpAt P o (putAll ops (fun i => vals.getD i undef) (fun _ => true) a ops.size) (vals.getD i undef) (J (doneL l i)) w' else vals.getD i undef = undef ∧ J (doneL l i) w') n l := by
      intro l
      induction l with
      | nil => intro n _ _; trivial
      | cons x l ih =>
        intro n hk h
        refine ⟨⟨by simpa using hk 0 x rfl, h.1⟩, ih (n + 1) (fun k o ho => ?_) h.2⟩
        have := hk (k + 1) o (by simpa using ho)
        have e : n + 1 + k = n + (k + 1) := by omega
        rw [e]; exact this
    exact this ops.toList 0 (fun k o h => by simpa using h) hstep
  · intro v w' h
    rw [putAll_congr_dst (vals' := fun i => vals.getD i undef) ops.size (fun i d hi hid => h.2 i d rfl hid)]
    exact hdone w' h.1
theorem wp_round_known {id lp nn : Nat} {a aF : Act} {w : World} (K : Nat → Value) (G : World → Prop) (hF : putAll ops K (fun _ => true) a ops.size = aF) (hm : P.follows .mixedOrders = true) (hnd : noDefer ops = true) (hq : ¬ LetsOut Q) (hd : dstsApart ops = true) (hb : edgesBackB ops = true) (hng : guardsOk ops = true)
    (hsz : (List.range ops.size).all (fun i => match dstOf ops i with | some d => decide (d < a.tmps.size) | none => true) = true)
    (h0 : G w.drew)
    (hstep : EachOp (fun i o => StepK P ops K G a i o) 0 ops.toList)
    (hdone : ∀ w', G w' → Q .normal aF w') :
    (Code.region id ops true).wpIn (Fence.wide.inRound lp) nn P Q a w := by
  subst hF
  have hall : ∀ (l : List Oper) (n : Nat), (∀ k o, l[k]? = some o → ops[n + k]? = some o) → EachOp (fun i o => StepK P ops K G a i o) n l → EachOp (fun i o => ops[i]? = some o ∧ StepK P ops K G a i o) n l := by
    intro l
    induction l with
    | nil => intro n _ _; trivial
    | cons x l ih =>
      intro n hk h
      refine ⟨⟨by simpa using hk 0 x rfl, h.1⟩, ih (n + 1) (fun k o ho => ?_) h.2⟩
      have := hk (k + 1) o (by simpa using ho)
      have e : n + 1 + k = n + (k + 1) := by omega
      rw [e]; exact this
  refine wp_round_invW (F := fun i o => ops[i]? = some o ∧ StepK P ops K G a i o) (fun l v w => G w ∧ ∀ j d, l j = true → dstOf ops j = some d → v j = K j) hm hnd hq hd hb hng hsz
    (fun l l' v w h hJ => ⟨hJ.1, fun j d hj hjd => hJ.2 j d ?_ hjd⟩) ⟨h0, fun j d h => by cases h⟩ ?_ (hall ops.toList 0 (fun k o h => by simpa using h) hstep) ?_
  · have hjs : j < ops.size := by
      rcases Nat.lt_or_ge j ops.size with h | h
      · exact h
      · unfold dstOf at hjd; rw [Array.getElem?_eq_none h] at hjd; simp at hjd
    rw [h j hjs]; exact hj
  · rintro i o ⟨hio, hgk, hst⟩
    refine StepJ.toW ?_
    intro l v w' hl hdp hJ
    obtain ⟨hG, hv⟩ := hJ
    have hdo : dstOf ops i = o.dst := by unfold dstOf; rw [hio]; rfl
    have hnx : ∀ x, (o.dst = none ∨ x = K i) → ∀ j d, doneL l i j = true → dstOf ops j = some d → doneV v i x j = K j := by
      intro x hx j d hj hjd
      unfold doneL at hj
      unfold doneV
      by_cases hji : j = i
      · subst hji
        rw [if_pos rfl]
        rcases hx with hx | hx
        · rw [hdo, hx] at hjd; cases hjd
        · exact hx
      · rw [if_neg hji] at hj ⊢
        exact hv j d hj hjd
    have hgv : ∀ g b, o.guard = some (g, b) → v g = K g := by
      intro g b hg
      have h1 := Array.all_eq_true_iff_forall_mem.1 hng o (Array.mem_of_getElem? hio)
      rw [hg] at h1
      simp only [Bool.and_eq_true, decide_eq_true_eq, Option.isSome_iff_exists] at h1
      obtain ⟨⟨h3, -⟩, d, hd'⟩ := h1
      exact hv g d (hdp g h3) hd'
    refine ⟨fun g b hg => ?_, fun hg ρ h1 h2 h3 h4 h5 => ?_⟩
    · obtain ⟨b', hb1, hb2⟩ := hgk g b hg
      exact ⟨b', (hgv g b hg).trans hb1, fun hne => ⟨hG, hnx undef (Or.inr (hb2 hne).symm)⟩⟩
    · refine (hst w' hG (fun g b h => (hgv g b h).symm.trans (hg g b h)) ρ h1 h2 h3 (fun j d hj hjd => ?_) h5).mono fun x w'' h => ⟨h.2, hnx x h.1⟩
      rw [h4 j d hj hjd]
      exact hv j d (hdp j hj) hjd
  · intro v w' h
    rw [putAll_congr_dst (vals' := K) ops.size (fun i d hi hid => h.2 i d rfl hid)]
    exact hdone w' h.1
theorem wp_round_knownV {id lp nn : Nat} {a : Act} {aF : (Nat → Value) → Act} {w : World} (V : Nat → Value → World → Prop) (G : World → Prop) (Gr : World → World → Prop) (hF : ∀ vals, putAll ops vals (fun _ => true) a ops.size = aF vals) (hm : P.follows .mixedOrders = true) (hnd : noDefer ops = true) (hq : ¬ LetsOut Q) (hd : dstsApart ops = true) (hb : edgesBackB ops = true) (hng : guardsOk ops = true)
    (hsz : (List.range ops.size).all (fun i => match dstOf ops i with | some d => decide (d < a.tmps.size) | none => true) = true)
    (hstab : ∀ i v w w', V i v w → Gr w w' → V i v w')
    (h0 : G w.drew)
    (hstep : EachOp (fun i o => StepV P ops V G Gr a i o) 0 ops.toList)
    (hdone : ∀ (vals : Nat → Value) w', G w' → (∀ i, i < ops.size → V i (vals i) w') → Q .normal (aF vals) w') :
    (Code.region id ops true).wpIn (Fence.wide.inRound lp) nn P Q a w := by
  have hall : ∀ (l : List Oper) (n : Nat), (∀ k o, l[k]? = some o → ops[n + k]? = some o) → EachOp (fun i o => StepV P ops V G Gr a i o) n l → EachOp (fun i o => ops[i]? = some o ∧ StepV P ops V G Gr a i o) n l := by
    intro l
    induction l with
    | nil => intro n _ _; trivial
    | cons x l ih =>
      intro n hk h
      refine ⟨⟨by simpa using hk 0 x rfl, h.1⟩, ih (n + 1) (fun k o ho => ?_) h.2⟩
      have := hk (k + 1) o (by simpa using ho)
      have e : n + 1 + k = n + (k + 1) := by omega
      rw [e]; exact this
  refine wp_round_invW (F := fun i o => ops[i]? = some o ∧ StepV P ops V G Gr a i o) (fun l v w => G w ∧ ∀ j, j < ops.size → l j = true → V j (v j) w) hm hnd hq hd hb hng hsz
    (fun l l' v w h hJ => ⟨hJ.1, fun j hj hl => hJ.2 j hj (by rw [h j hj]; exact hl)⟩) ⟨h0, fun j _ h => by cases h⟩ ?_ (hall ops.toList 0 (fun k o h => by simpa using h) hstep) ?_
  · rintro i o ⟨hio, hgk, hst⟩
    refine StepJ.toW ?_
    intro l v w' hl hdp hJ
    obtain ⟨hG, hv⟩ := hJ
    have his : i < ops.size := (Array.getElem?_eq_some_iff.1 hio).1
    have hlt : ∀ j, (depsOf o).contains j = true → j < ops.size := by
      intro j hj
      have h1 := Array.all_eq_true_iff_forall_mem.1 (edges_onB hb) o (Array.mem_of_getElem? hio)
      unfold depsOf at hj
      rw [List.contains_iff_mem, List.mem_map] at hj
      obtain ⟨e, he, rfl⟩ := hj
      have := Array.all_eq_true_iff_forall_mem.1 h1 e (by simpa using (List.mem_filter.1 he).1)
      simpa using this
    have hnx : ∀ x w'', V i x w'' → G w'' → (∀ j, j < ops.size → l j = true → V j (v j) w'') → (G w'' ∧ ∀ j, j < ops.size → doneL l i j = true → V j (doneV v i x j) w'') := by
      intro x w'' hx hG' hall'
      refine ⟨hG', fun j hj hlj => ?_⟩
      unfold doneL at hlj
      unfold doneV
      by_cases hji : j = i
      · subst hji; rw [if_pos rfl]; exact hx
      · rw [if_neg hji] at hlj ⊢; exact hall' j hj hlj
    have hgd : ∀ g b, o.guard = some (g, b) → (depsOf o).contains g = true := by
      intro g b hg
      have h1 := Array.all_eq_true_iff_forall_mem.1 hng o (Array.mem_of_getElem? hio)
      rw [hg] at h1
      simp only [Bool.and_eq_true] at h1
      exact h1.1.1
    refine ⟨fun g b hg => ?_, fun hg ρ h1 h2 h3 h4 h5 => ?_⟩
    · obtain ⟨b', hb1, hb2⟩ := hgk g b hg
      have hgv := hb1 _ _ (hv g (hlt g (hgd g b hg)) (hdp g (hgd g b hg)))
      exact ⟨b', hgv, fun hne => hnx undef w' (hb2 hne w') hG hv⟩
    · refine (hst w' hG (fun g b h v0 w0 hv0 => ?_) ρ h1 h2 h3 (fun j d hj hjd => ?_) h5).mono fun x w'' h => hnx x w'' h.1 h.2.1 (fun j hj hlj => hstab j _ _ _ (hv j hj hlj) h.2.2)
      · obtain ⟨b', hb1, -⟩ := hgk g b h
        have e1 := hb1 _ _ (hv g (hlt g (hgd g b h)) (hdp g (hgd g b h)))
        have e2 := hg g b h
        rw [e1] at e2
        rw [hb1 _ _ hv0, e2]
      · rw [h4 j d hj hjd]
        exact hv j (hlt j hj) (hdp j hj)
  · intro v w' h
    rw [hF]
    exact hdone v w' h.1 (fun i hi => h.2 i hi rfl)
theorem wp_round_knownJ {id lp nn : Nat} {a aF : Act} {w : World} (K : Nat → Value) (J : (Nat → Bool) → World → Prop) (hF : putAll ops K (fun _ => true) a ops.size = aF) (hm : P.follows .mixedOrders = true) (hnd : noDefer ops = true) (hq : ¬ LetsOut Q) (hd : dstsApart ops = true) (hb : edgesBackB ops = true) (hng : guardsOk ops = true)
    (hsz : (List.range ops.size).all (fun i => match dstOf ops i with | some d => decide (d < a.tmps.size) | none => true) = true)
    (hext : ∀ (l l' : Nat → Bool) w, (∀ i, i < ops.size → l i = l' i) → J l w → J l' w)
    (h0 : J (fun _ => false) w.drew)
    (hstep : EachOp (fun i o => StepKJ P ops K J a i o) 0 ops.toList)
    (hdone : ∀ w', J (fun _ => true) w' → Q .normal aF w') :
    (Code.region id ops true).wpIn (Fence.wide.inRound lp) nn P Q a w := by
  subst hF
  have hall : ∀ (l : List Oper) (n : Nat), (∀ k o, l[k]? = some o → ops[n + k]? = some o) → EachOp (fun i o => StepKJ P ops K J a i o) n l → EachOp (fun i o => ops[i]? = some o ∧ StepKJ P ops K J a i o) n l := by
    intro l
    induction l with
    | nil => intro n _ _; trivial
    | cons x l ih =>
      intro n hk h
      refine ⟨⟨by simpa using hk 0 x rfl, h.1⟩, ih (n + 1) (fun k o ho => ?_) h.2⟩
      have := hk (k + 1) o (by simpa using ho)
      have e : n + 1 + k = n + (k + 1) := by omega
      rw [e]; exact this
  refine wp_round_invW (F := fun i o => ops[i]? = some o ∧ StepKJ P ops K J a i o) (fun l v w => J l w ∧ ∀ j d, l j = true → dstOf ops j = some d → v j = K j) hm hnd hq hd hb hng hsz
    (fun l l' v w h hJ => ⟨hext l l' w h hJ.1, fun j d hj hjd => hJ.2 j d ?_ hjd⟩) ⟨h0, fun j d h => by cases h⟩ ?_ (hall ops.toList 0 (fun k o h => by simpa using h) hstep) ?_
  · have hjs : j < ops.size := by
      rcases Nat.lt_or_ge j ops.size with h | h
      · exact h
      · unfold dstOf at hjd; rw [Array.getElem?_eq_none h] at hjd; simp at hjd
    rw [h j hjs]; exact hj
  · rintro i o ⟨hio, hgk, hst⟩
    refine StepJ.toW ?_
    intro l v w' hl hdp hJ
    obtain ⟨hG, hv⟩ := hJ
    have hdo : dstOf ops i = o.dst := by unfold dstOf; rw [hio]; rfl
    have hnx : ∀ x, (o.dst = none ∨ x = K i) → ∀ j d, doneL l i j = true → dstOf ops j = some d → doneV v i x j = K j := by
      intro x hx j d hj hjd
      unfold doneL at hj
      unfold doneV
      by_cases hji : j = i
      · subst hji
        rw [if_pos rfl]
        rcases hx with hx | hx
        · rw [hdo, hx] at hjd; cases hjd
        · exact hx
      · rw [if_neg hji] at hj ⊢
        exact hv j d hj hjd
    have hgv : ∀ g b, o.guard = some (g, b) → v g = K g := by
      intro g b hg
      have h1 := Array.all_eq_true_iff_forall_mem.1 hng o (Array.mem_of_getElem? hio)
      rw [hg] at h1
      simp only [Bool.and_eq_true, decide_eq_true_eq, Option.isSome_iff_exists] at h1
      obtain ⟨⟨h3, -⟩, d, hd'⟩ := h1
      exact hv g d (hdp g h3) hd'
    refine ⟨fun g b hg => ?_, fun hg ρ h1 h2 h3 h4 h5 => ?_⟩
    · obtain ⟨b', hb1, hb2⟩ := hgk g b hg
      exact ⟨b', (hgv g b hg).trans hb1, fun hne => ⟨(hb2 hne).2 l w' hl hdp hG, hnx undef (Or.inr (hb2 hne).1.symm)⟩⟩
    · refine (hst l w' hl hdp hG (fun g b h => (hgv g b h).symm.trans (hg g b h)) ρ h1 h2 h3 (fun j d hj hjd => ?_) h5).mono fun x w'' h => ⟨h.2, hnx x h.1⟩
      rw [h4 j d hj hjd]
      exact hv j d (hdp j hj) hjd
  · intro v w' h
    rw [putAll_congr_dst (vals' := K) ops.size (fun i d hi hid => h.2 i d rfl hid)]
    exact hdone w' h.1
theorem wp_round_invW9 {F : Nat → Oper → Prop} {id lp nn : Nat} {a : Act} {w : World} (J : (Nat → Bool) → (Nat → Value) → World → Prop) (hm : P.follows .mixedOrders = true) (hnd : noDefer ops = true) (hq : ¬ LetsOut Q) (hd : dstsApart ops = true) (hb : edgesBackB ops = true) (hng : guardsOk ops = true)
    (hsz : (List.range ops.size).all (fun i => match dstOf ops i with | some d => decide (d < a.tmps.size) | none => true) = true)
    (hext : ∀ (l l' : Nat → Bool) (v : Nat → Value) w, (∀ i, i < ops.size → l i = l' i) → J l v w → J l' v w)
    (h0 : J (fun _ => false) (fun _ => undef) w.drew)
    (hto : ∀ i o, F i o → StepW9 P ops J a i o)
    (hstep : EachOp F 0 ops.toList)
    (hdone : ∀ (vals : Nat → Value) w', J (fun _ => true) vals w' → Q .normal (putAll ops vals (fun _ => true) a ops.size) w') :
    (Code.region id ops true).wpIn (Fence.wide.inRound lp) nn P Q a w := by
  refine wp_round_any hm hnd hq ?_
  have hf : ∀ n, (Array.replicate ops.size false).getD n false = false := by
    intro n
    by_cases h : n < ops.size <;> simp [Array.getD, h]
  have hnone : putAll ops (fun _ => undef) (fun i => (Array.replicate ops.size false).getD i false) a ops.size = a := by
    have : ∀ n, putAll ops (fun _ => undef) (fun i => (Array.replicate ops.size false).getD i false) a n = a := by
      intro n
      induction n with
      | zero => rfl
      | succ n ih =>
        have hfn := hf n
        simp only [putAll, hfn, Bool.false_eq_true, if_false]; exact ih
    exact this _
  have := wpAny_inv9 hd hng J a hsz hext (fun i o hio => by have := EachOp.get hstep i o (by simpa using hio); rw [Nat.zero_add] at this; exact hto i o this) hdone (edges_onB hb)
    (fun listed' h1 h2 i hi => all_listedB hb h1 h2 (i + 1) i (by omega) hi) ops.size (Array.replicate ops.size false) (fun _ => undef) w.drew (by simp) (by
    have := List.length_filter_le (fun i => !(Array.replicate ops.size false).getD i true) (List.range ops.size)
    simpa using this) (hext _ _ _ _ (fun i _ => (hf i).symm) h0)
  rw [hnone] at this
  exact this
theorem wp_round_knownJ9 {id lp nn : Nat} {a aF : Act} {w : World} (K : Nat → Value) (J : (Nat → Bool) → World → Prop) (hF : putAll ops K (fun _ => true) a ops.size = aF) (hm : P.follows .mixedOrders = true) (hnd : noDefer ops = true) (hq : ¬ LetsOut Q) (hd : dstsApart ops = true) (hb : edgesBackB ops = true) (hng : guardsOk ops = true)
    (hsz : (List.range ops.size).all (fun i => match dstOf ops i with | some d => decide (d < a.tmps.size) | none => true) = true)
    (hext : ∀ (l l' : Nat → Bool) w, (∀ i, i < ops.size → l i = l' i) → J l w → J l' w)
    (h0 : J (fun _ => false) w.drew)
    (hstep : EachOp (fun i o => StepKJ9 P ops K J a i o) 0 ops.toList)
    (hdone : ∀ w', J (fun _ => true) w' → Q .normal aF w') :
    (Code.region id ops true).wpIn (Fence.wide.inRound lp) nn P Q a w := by
  subst hF
  have hall : ∀ (l : List Oper) (n : Nat), (∀ k o, l[k]? = some o → ops[n + k]? = some o) → EachOp (fun i o => StepKJ9 P ops K J a i o) n l → EachOp (fun i o => ops[i]? = some o ∧ StepKJ9 P ops K J a i o) n l := by
    intro l
    induction l with
    | nil => intro n _ _; trivial
    | cons x l ih =>
      intro n hk h
      refine ⟨⟨by simpa using hk 0 x rfl, h.1⟩, ih (n + 1) (fun k o ho => ?_) h.2⟩
      have := hk (k + 1) o (by simpa using ho)
      have e : n + 1 + k = n + (k + 1) := by omega
      rw [e]; exact this
  refine wp_round_invW9 (F := fun i o => ops[i]? = some o ∧ StepKJ9 P ops K J a i o) (fun l v w => J l w ∧ ∀ j d, l j = true → dstOf ops j = some d → v j = K j) hm hnd hq hd hb hng hsz
    (fun l l' v w h hJ => ⟨hext l l' w h hJ.1, fun j d hj hjd => hJ.2 j d ?_ hjd⟩) ⟨h0, fun j d h => by cases h⟩ ?_ (hall ops.toList 0 (fun k o h => by simpa using h) hstep) ?_
  · have hjs : j < ops.size := by
      rcases Nat.lt_or_ge j ops.size with h | h
      · exact h
      · unfold dstOf at hjd; rw [Array.getElem?_eq_none h] at hjd; simp at hjd
    rw [h j hjs]; exact hj
  · rintro i o ⟨hio, hgk, hst⟩
    intro l v w' hl hdp hJ
    obtain ⟨hG, hv⟩ := hJ
    have hdo : dstOf ops i = o.dst := by unfold dstOf; rw [hio]; rfl
    have hnx : ∀ x, (o.dst = none ∨ x = K i) → ∀ j d, doneL l i j = true → dstOf ops j = some d → doneV v i x j = K j := by
      intro x hx j d hj hjd
      unfold doneL at hj
      unfold doneV
      by_cases hji : j = i
      · subst hji
        rw [if_pos rfl]
        rcases hx with hx | hx
        · rw [hdo, hx] at hjd; cases hjd
        · exact hx
      · rw [if_neg hji] at hj ⊢
        exact hv j d hj hjd
    have hgv : ∀ g b, o.guard = some (g, b) → v g = K g := by
      intro g b hg
      have h1 := Array.all_eq_true_iff_forall_mem.1 hng o (Array.mem_of_getElem? hio)
      rw [hg] at h1
      simp only [Bool.and_eq_true, decide_eq_true_eq, Option.isSome_iff_exists] at h1
      obtain ⟨⟨h3, -⟩, d, hd'⟩ := h1
      exact hv g d (hdp g h3) hd'
    refine ⟨fun g b hg => ?_, fun hg a' hs hr hf K2 Qp hK => ?_⟩
    · obtain ⟨b', hb1, hb2⟩ := hgk g b hg
      exact ⟨b', (hgv g b hg).trans hb1, fun hne => ⟨(hb2 hne).2 l w' hl hdp hG, hnx undef (Or.inr (hb2 hne).1.symm)⟩⟩
    · refine OpY.wp ((hst l w' hl hdp hG (fun g b h => (hgv g b h).symm.trans (hg g b h)) a'.eval (fun _ => rfl) (fun _ => rfl) (fun _ => rfl) (fun j d hj hjd => ?_) hf).mono fun x w'' h => hK x w'' ⟨h.2, hnx x h.1⟩)
      rw [hr j d hj hjd]
      exact hv j d (hdp j hj) hjd
  · intro v w' h
    rw [putAll_congr_dst (vals' := K) ops.size (fun i d hi hid => h.2 i d rfl hid)]
    exact hdone w' h.1
end Go.Proofs.Ytaklfjjkeebheaa
