/-
  A region whose guards all let pass, whether it draws its order or not, said operation by operation without a frame: what each operation yields out of what those yield that it waits for. Said of any program. Nothing of the program.
-/
import Derived.Test.YtokkafiphchejaaDoorReg3
namespace Go.Proofs.YtokkafiphchejaaDoor
set_option linter.unusedVariables false
open Go
section
variable {P : Program} {ops : Array Oper} {Q : Exit → Act → World → Prop}
/-- What an operation yields, its operands read by ρ. -/
def OpR (P : Program) (R : Value → World → Prop) : Result Next → Prop
  | .ok (.value v) w' => R v w'
  | .ok .skip w' => R undef w'
  | .ok (.enter f args) w' => Calls P f args w' fun e w'' => ∃ v, e = .returned v ∧ R v w''
  | _ => False
def OpY (P : Program) (o : Oper) (ρ : Operand → Value) (w : World) (R : Value → World → Prop) : Prop := OpR P R ((execOp ρ o).run P w)
theorem OpY.mono {o : Oper} {ρ : Operand → Value} {w : World} {R R' : Value → World → Prop} (h : OpY P o ρ w R) (k : ∀ v w', R v w' → R' v w') : OpY P o ρ w R' := by
  unfold OpY at *
  generalize (execOp ρ o).run P w = r at *
  unfold OpR at *
  split at h
  · exact k _ _ h
  · exact k _ _ h
  · refine Calls.mono h fun e w'' he => ?_
    obtain ⟨v, h1, h2⟩ := he
    exact ⟨v, h1, k _ _ h2⟩
  · exact h.elim
theorem OpY.wp {o : Oper} {a : Act} {w : World} {K : Act → World → Prop} (h : OpY P o a.eval w fun v w'' => K (a.put o.dst v) w'') : o.wp P a w K Q := by
  unfold Oper.wp
  unfold OpY at h
  generalize (execOp a.eval o).run P w = r at *
  unfold OpR at h
  split at h
  · exact h
  · exact h
  · simp only [Oper.upon]
    refine Calls.mono h fun e w'' he => ?_
    obtain ⟨v, rfl, h2⟩ := he
    exact h2
  · exact h.elim
theorem wpOps_posts (hd : dstsApart ops = true) (hb : edgesBack ops = true) (V : Nat → Value → World → Prop) (G : World → Prop) (Gr : Nat → World → World → Prop) (a0 : Act)
    (hsz : (List.range ops.size).all (fun i => match dstOf ops i with | some d => decide (d < a0.tmps.size) | none => true) = true)
    (hstab : ∀ i j v w w', i ≠ j → V i v w → Gr j w w' → V i v w')
    (hstep : ∀ i o, ops[i]? = some o → StepOk P ops Q V G Gr a0 i o)
    (hdone : ∀ (vals : Nat → Value) w', G w' → (∀ i, i < ops.size → V i (vals i) w') → Q .normal (putAll ops vals (fun _ => true) a0 ops.size) w') :
    ∀ (k i : Nat) (vals : Nat → Value) (w : World), i + k = ops.size → G w → (∀ j, j < i → V j (vals j) w) → wpOps P ops Q (List.range' i k) (putAll ops vals (fun j => decide (j < i)) a0 ops.size) w := by
  intro k
  induction k with
  | zero =>
    intro i vals w hik hG hV
    simp only [List.range'_zero, wpOps]
    rw [putAll_congr (vals' := vals) (listed' := fun _ => true) ops.size (fun j hj => ⟨by simp; omega, fun _ => rfl⟩)]
    exact hdone vals w hG (fun j hj => hV j (by omega))
  | succ k ih =>
    intro i vals w hik hG hV
    have his : i < ops.size := by omega
    obtain ⟨o, ho⟩ : ∃ o, ops[i]? = some o := ⟨_, Array.getElem?_eq_getElem his⟩
    rw [List.range'_succ, wpOps_cons]
    have hbi := List.all_eq_true.1 hb i (List.mem_range.2 his)
    rw [ho] at hbi
    refine hstep i o ho _ w vals hG (fun e he hbe => ?_) (fun d hfar => ?_) (putAll_size _) _ (fun v w'' hv hG'' hgr => ?_)
    · have h1 := Array.all_eq_true_iff_forall_mem.1 hbi e (by simpa using he)
      simp only [decide_eq_true_eq] at h1
      have heo : e.on < ops.size := by omega
      refine ⟨hV e.on h1, fun d hde => ?_⟩
      have hds : d < a0.tmps.size := by
        have := List.all_eq_true.1 hsz e.on (List.mem_range.2 heo)
        rw [hde] at this
        simpa using this
      exact putAll_eval_at hd hde (by simpa using h1) hds ops.size heo (Nat.le_refl _)
    · refine putAll_eval_far ops.size (fun j hj => ?_)
      have := List.all_eq_true.1 hfar j (List.mem_range.2 hj)
      simpa using this
    · have hdo : o.dst = dstOf ops i := by unfold dstOf; rw [ho]; rfl
      rw [hdo, putAll_put hd (by simp) ops.size his (Nat.le_refl _)]
      have hcg : putAll ops (fun k => if k = i then v else vals k) (fun k => if k = i then true else decide (k < i)) a0 ops.size = putAll ops (fun k => if k = i then v else vals k) (fun k => decide (k < i + 1)) a0 ops.size :=
        putAll_congr ops.size (fun k hk => ⟨by
          by_cases hki : k = i
          · subst hki; simp
          · simp only [if_neg hki, decide_eq_decide]; omega, fun _ => rfl⟩)
      rw [hcg]
      refine ih (i + 1) _ w'' (by omega) hG'' (fun j hj => ?_)
      by_cases hji : j = i
      · subst hji; simp only [if_true]; exact hv
      · simp only [if_neg hji]
        exact hstab j i _ _ _ hji (hV j (by omega)) hgr
/-- A region by posts, drawn or not. -/
theorem wp_region_posts2 {id : Nat} {draw : Bool} {a : Act} {w : World} (hm : P.follows .mixedOrders = true) (hd : dstsApart ops = true) (hb : edgesBack ops = true)
    (V : Nat → Value → World → Prop) (G : World → Prop) (Gr : Nat → World → World → Prop)
    (hsz : (List.range ops.size).all (fun i => match dstOf ops i with | some d => decide (d < a.tmps.size) | none => true) = true)
    (hstab : ∀ i j v w w', i ≠ j → V i v w → Gr j w w' → V i v w')
    (h0 : G (if draw then w.drew else w))
    (hstep : ∀ i o, ops[i]? = some o → StepOk P ops Q V G Gr a i o)
    (hdone : ∀ (vals : Nat → Value) w', G w' → (∀ i, i < ops.size → V i (vals i) w') → Q .normal (putAll ops vals (fun _ => true) a ops.size) w') :
    (Code.region id ops draw).wp P Q a w := by
  cases draw with
  | true => exact wp_region_posts hm hd hb V G Gr hsz hstab h0 hstep hdone
  | false =>
    refine wp_region ?_
    rw [List.range_eq_range']
    have hnone : ∀ n, putAll ops (fun _ => undef) (fun j => decide (j < 0)) a n = a := by
      intro n
      induction n with
      | zero => rfl
      | succ n ih => simp only [putAll, Nat.not_lt_zero, decide_false, Bool.false_eq_true, if_false]; simpa using ih
    have := wpOps_posts hd hb V G Gr a hsz hstab hstep hdone ops.size 0 (fun _ => undef) w (by omega) h0 (fun j hj => by omega)
    rw [hnone] at this
    exact this
/-- The slots that no operation writes. -/
def farOf (ops : Array Oper) (d : Tmp) : Bool := (List.range ops.size).all fun j => dstOf ops j != some d
theorem wp_region_ops {id : Nat} {draw : Bool} {a : Act} {w : World} (hm : P.follows .mixedOrders = true) (hd : dstsApart ops = true) (hb : edgesBack ops = true) (hng : guardsOk ops = true)
    (V : Nat → Value → World → Prop) (G : World → Prop) (Gr : World → World → Prop)
    (hgv : ∀ (i : Nat) (o : Oper), ops[i]? = some o → GuardIs V o)
    (hsz : (List.range ops.size).all (fun i => match dstOf ops i with | some d => decide (d < a.tmps.size) | none => true) = true)
    (hstab : ∀ i v w w', V i v w → Gr w w' → V i v w')
    (h0 : G (if draw then w.drew else w))
    (hstep : ∀ i o, ops[i]? = some o → ∀ (ρ : Operand → Value) w', G w' → (∀ v, ρ (.const v) = v) → (∀ g, ρ (.global g) = .pointer (some ⟨g, 0, none⟩)) → (∀ f, ρ (.func f) = .func (.func f) #[] #[]) →
      (∀ j d, (depsOf o).contains j = true → dstOf ops j = some d → V j (ρ (.tmp d)) w') → (∀ d, farOf ops d = true → ρ (.tmp d) = a.eval (.tmp d)) →
      OpY P o ρ w' fun v w'' => V i v w'' ∧ G w'' ∧ Gr w' w'')
    (hdone : ∀ (vals : Nat → Value) w', G w' → (∀ i, i < ops.size → V i (vals i) w') → Q .normal (putAll ops vals (fun _ => true) a ops.size) w') :
    (Code.region id ops draw).wp P Q a w := by
  refine wp_region_posts2 hm hd hb V G (fun _ => Gr) hsz (fun i j v w w' _ h g => hstab i v w w' h g) h0 ?_ hdone
  intro i o hio a' w' vals hG hv hfar hsize K hK
  have his : i < ops.size := (Array.getElem?_eq_some_iff.1 hio).1
  have hwant : Region.wanted o (yielded ops a'.tmps) = true := by
    have h1 := Array.all_eq_true_iff_forall_mem.1 hng o (Array.mem_of_getElem? hio)
    have h2 := hgv i o hio
    unfold GuardIs at h2
    unfold Region.wanted
    cases hg : o.guard with
    | none => rfl
    | some gb =>
      obtain ⟨g, b⟩ := gb
      rw [hg] at h1 h2
      simp only [Bool.and_eq_true, decide_eq_true_eq, Option.isSome_iff_exists] at h1 h2
      obtain ⟨⟨h3, hgs⟩, d, hd'⟩ := h1
      unfold depsOf at h3
      rw [List.contains_iff_mem, List.mem_map] at h3
      obtain ⟨e, he, heg⟩ := h3
      obtain ⟨he1, he2⟩ := List.mem_filter.1 he
      obtain ⟨hv1, hv2⟩ := hv e he1 he2
      rw [heg] at hv1 hv2
      have hds : d < a.tmps.size := by
        have := List.all_eq_true.1 hsz g (List.mem_range.2 hgs)
        rw [hd'] at this
        simpa using this
      have := yielded_is hd' (by rw [hsize]; exact hds) ((hv2 d hd').trans (h2 _ _ hv1))
      simp [this]
  unfold wpOp
  simp only [hio, hwant, if_true]
  left
  refine OpY.wp ((hstep i o hio a'.eval w' hG (fun _ => rfl) (fun _ => rfl) (fun _ => rfl) ?_ (fun d hd' => hfar d hd')).mono fun v w'' h => hK v w'' h.1 h.2.1 h.2.2)
  intro j d hj hjd
  unfold depsOf at hj
  rw [List.contains_iff_mem, List.mem_map] at hj
  obtain ⟨e, he, rfl⟩ := hj
  obtain ⟨he1, he2⟩ := List.mem_filter.1 he
  obtain ⟨h1, h2⟩ := hv e he1 he2
  rw [h2 d hjd]; exact h1
end
end Go.Proofs.YtokkafiphchejaaDoor
