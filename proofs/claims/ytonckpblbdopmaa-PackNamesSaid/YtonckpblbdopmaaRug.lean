/-
  Reckoning a program in the kernel: an operation of a region; a region in its text's order. Nothing of the program.
-/
import Derived.Test.YtonckpblbdopmaaRuf
namespace Go.Proofs.Ytonckpblbdopmaa.Rk
set_option linter.unusedVariables false
open Go
set_option maxHeartbeats 1000000
set_option linter.unusedSimpArgs false

def wf (ro : Option Nat) : Fence := { fn := fun _ => True, depth := none, alive := false, round := ro }
section
variable {w0 : World} {P : Program} {a a' : Tri AV} {s s' : St} {o : Oper} {v : AV} {cl yl : Nat → List AV → St → Option (AV × St)}
theorem wpIn_of_out {ro : Option Nat} {act : Act} {W : World} {next : Act → World → Prop} {Q : Exit → Act → World → Prop} (hdef : ∀ c, o.op ≠ .defer c) (h : OpOut P (fun v w => next (act.put o.dst v) w) ((execOp act.eval o).run P W)) : o.wpIn (wf ro) 0 P act W next Q := by
  refine ⟨fun _ _ => trivial, ?_⟩
  rw [show (wf ro).round = ro from rfl, Oper.semAt_eq ro act.eval o hdef]
  generalize (execOp act.eval o).run P W = r at h
  unfold OpOut at h
  split at h
  · exact h
  · exact h
  · refine ⟨(fun hd => by cases hd), ?_⟩
    have h' : CallsIn (wf ro) 0 P _ _ _ _ := h
    exact h'.mono fun e w' he => by obtain ⟨v, rfl, hk⟩ := he; exact hk
  · refine ⟨(fun hd => by cases hd), ?_⟩
    have h' : RoundIn (wf ro) 0 P _ _ _ _ _ _ _ := h
    exact h'.mono fun e w' he => by obtain ⟨v, rfl, hk⟩ := he; exact hk
  · exact h.elim
/-- The slots of a list hold what is reckoned. -/
def RdAll (m : Tl) (a : Tri AV) (act : Act) (L : List Nat) : Prop := ∀ t ∈ L, ∀ v, a.get (pt t) = some v → ∃ u, act.tmps[t]? = some u ∧ VR m v u
def opSlots (o : Oper) : List Nat := o.op.operands.toList.filterMap fun | .tmp t => some t | _ => none
def gdSlots (ops : Array Oper) (o : Oper) : List Nat := match o.guard with | some (j, _) => ((ops[j]?).bind (·.dst)).toList | none => []
theorem RdAll.rdok {m : Tl} {act : Act} {L : List Nat} (h : RdAll m a act L) (hs : ∀ t ∈ opSlots o, t ∈ L) : RdOk m a act o.op.operands.toList := by
  intro t v ht hv
  obtain ⟨u, hu, hv'⟩ := h t (hs t (by unfold opSlots; exact List.mem_filterMap.2 ⟨_, ht, rfl⟩)) v hv
  have : act.eval (.tmp t) = u := by simp [Act.eval, Array.getD_eq_getD_getElem?, hu]
  rw [this]; exact hv'
theorem defer_no {c : Call} : cOp P (.defer c) = none := rfl
/-- One operation, its guard and all. -/
theorem oper_ok {N : Nat} {ops : Array Oper} {anc : Nat} {eo : EOper} {ro : Option Nat} (hcl : ClOk w0 P cl) (hyl : YlOk w0 P yl) (hc : cOper P N ops anc o = some eo) (h : evOper cl yl eo a s = some (a', s')) :
    eo.dst = o.dst.map ptc ∧ eo.anc = anc ∧ (∀ d, o.dst = some d → d < N) ∧ ∃ T Wr v, Seg s s' T Wr ∧ (∀ t, a'.get (pt t) = if o.dst = some t then some v else a.get (pt t)) ∧
      ∀ (m : Tl) (H : Hp) (W : World) (act : Act) (K : Act → World → Prop) (Q : Exit → Act → World → Prop) (i : Nat), ops[i]? = some o → Good w0 P P.globals.size m H W → Agree H s T → Fresh m s s' → RdAll m a act (opSlots o ++ gdSlots ops o) →
        (∀ m' v' W', Stp w0 P P.globals.size s s' Wr m m' H W W' → VR m' v v' → K (act.put o.dst v') W') → wpOpIn (wf ro) 0 P ops Q i K act W := by
  unfold cOper at hc
  split at hc
  · rename_i hdst
    obtain ⟨g, hg, rfl⟩ := map_inv hc
    refine ⟨rfl, rfl, fun d hd => by rw [hd] at hdst; simpa using hdst, ?_⟩
    obtain ⟨b, hb, h_⟩ := ob_some h; clear h; have h := h_; clear h_
    have hput : ∀ {x : AV} {b : Tri AV} {s0 s1 : St}, putA (o.dst.map ptc) x a s0 = some (b, s1) → s1 = s0 ∧ ∀ t, b.get (pt t) = if o.dst = some t then some x else a.get (pt t) := by
      intro x b s0 s1 hp
      unfold putA at hp
      cases hd : o.dst with
      | none => rw [hd] at hp; cases hp; exact ⟨rfl, fun t => by simp⟩
      | some d =>
        rw [hd] at hp
        have hp := fT_some hp
        cases hp
        refine ⟨rfl, fun t => ?_⟩
        rw [ptc_eq]
        by_cases ht : d = t
        · subst ht; rw [if_pos rfl, Tri.set_same]
        · rw [if_neg (fun e => ht (by cases e; rfl)), Tri.set_other _ _ _ _ (fun e => ht (pt_inj e))]
    -- the guard
    have hgd : ∀ (m : Tl) (act : Act), RdAll m a act (gdSlots ops o) → Region.wanted o (yielded ops act.tmps) = b := by
      intro m act hr
      unfold Region.wanted
      cases hgo : o.guard with
      | none =>
        rw [hgo] at hg
        simp only [cGuard, Option.some.injEq] at hg
        subst hg
        simp only [guardA, Option.some.injEq] at hb
        simp [hb]
      | some jb =>
        obtain ⟨j, w⟩ := jb
        rw [hgo] at hg
        simp only [cGuard] at hg
        cases hd : (ops[j]?).bind (·.dst) with
        | none => rw [hd] at hg; cases hg
        | some d =>
          rw [hd] at hg
          cases hg
          obtain ⟨x, hx, hb⟩ := ob_some hb
          rw [ptc_eq] at hx
          obtain ⟨u, hu, hv⟩ := hr d (by unfold gdSlots; rw [hgo]; simp [hd]) x hx
          have hy : yielded ops act.tmps j = match u with | .bool b => some b | _ => none := by
            unfold yielded
            rw [hd]
            simp only [Option.bind_some, hu]
            cases u <;> rfl
          cases x <;> simp only at hb <;> try cases hb
          · cases hv
            rename_i c
            simp only [hy]
            cases w <;> cases c <;> rfl
          · cases hv
            simp only [hy]
            rfl
    rcases rec_two h with ⟨rfl, h⟩ | ⟨rfl, h⟩
    · obtain ⟨rfl, hget⟩ := hput h
      refine ⟨[], [], .tup [], Seg.refl _, hget, fun m H W act K Q i hi hg' ha hf hr hK => ?_⟩
      have hw := hgd m act (fun t ht => hr t (List.mem_append.2 (.inr ht)))
      unfold wpOpIn
      simp only [hi, hw, Bool.false_eq_true, if_false]
      exact ⟨fun _ _ => trivial, hK m _ W (Stp.refl hg') (.tup rfl (fun i a v ha _ => by simp at ha))⟩
    · obtain ⟨⟨x, s1⟩, hop, h_⟩ := ob_some h; clear h; have h := h_; clear h_
      obtain ⟨rfl, hget⟩ := hput h
      cases hco : cOp P o.op with
      | none => rw [hco] at hop; cases hop
      | some e =>
        rw [hco] at hop
        obtain ⟨T, Wr, hseg, hrun⟩ := op_ok (o := o) hcl hyl hco hop
        refine ⟨T, Wr, x, hseg, hget, fun m H W act K Q i hi hg' ha hf hr hK => ?_⟩
        have hw := hgd m act (fun t ht => hr t (List.mem_append.2 (.inr ht)))
        unfold wpOpIn
        simp only [hi, hw, if_true]
        exact wpIn_of_out (fun c hc => by rw [hc, defer_no] at hco; cases hco) (hrun m H W act _ hg' ha hf (hr.rdok (fun t ht => List.mem_append.2 (.inl ht))) hK)
  · cases hc
theorem AT.rdall {N : Nat} {m : Tl} {act : Act} (h : AT N m a act.tmps) (L : List Nat) : RdAll m a act L := fun t _ v hv => h.2 t v hv
theorem AT.put {N : Nat} {m : Tl} {act : Act} {d : Option Nat} {v' : Value} (h : AT N m a act.tmps) (hd : ∀ t, d = some t → t < N) (hget : ∀ t, a'.get (pt t) = if d = some t then some v else a.get (pt t)) (hv : VR m v v') : AT N m a' (act.put d v').tmps := by
  cases d with
  | none =>
    refine ⟨h.1, fun t x hx => ?_⟩
    rw [hget] at hx
    simp at hx
    exact h.2 t x hx
  | some d =>
    have hdN := hd d rfl
    refine ⟨by simp [Act.put]; exact h.1, fun t x hx => ?_⟩
    rw [hget] at hx
    by_cases ht : d = t
    · subst ht
      rw [if_pos rfl] at hx
      cases hx
      exact ⟨v', by simp [Act.put, Array.getElem?_setIfInBounds, Nat.lt_of_lt_of_le hdN h.1], hv⟩
    · rw [if_neg (fun e => ht (by cases e; rfl))] at hx
      obtain ⟨u, hu, hv'⟩ := h.2 t x hx
      exact ⟨u, by simp [Act.put, Array.getElem?_setIfInBounds, ht, hu], hv'⟩
/-- A region in its text's order. -/
theorem ops_seq {N : Nat} {ops : Array Oper} {anc : Array Nat} {ro : Option Nat} (hcl : ClOk w0 P cl) (hyl : YlOk w0 P yl) : ∀ (l : List Oper) (i : Nat) (es : List EOper) (a a' : Tri AV) (s s' : St), (∀ k, l[k]? = ops[i + k]?) → cOpers P N ops anc l i = some es → evOps cl yl es a s = some (a', s') →
    ∃ T Wr, Seg s s' T Wr ∧ ∀ (m : Tl) (H : Hp) (W : World) (act : Act) (Q : Exit → Act → World → Prop), Good w0 P P.globals.size m H W → Agree H s T → Fresh m s s' → AT N m a act.tmps →
      (∀ m' act' W', Stp w0 P P.globals.size s s' Wr m m' H W W' → AT N m' a' act'.tmps → act'.defers = act.defers → Q .normal act' W') → wpOpsIn (wf ro) 0 P ops Q (List.range' i l.length) act W
  | [], i, es, a, a', s, s', hl, hc, h => by
    cases hc
    cases h
    exact ⟨[], [], Seg.refl s, fun m H W act Q hg ha hf hat hQ => hQ m act W (Stp.refl hg) hat rfl⟩
  | o :: l, i, es, a, a', s, s', hl, hc, h => by
    unfold cOpers at hc
    split at hc
    · rename_i e es' he hes
      cases hc
      obtain ⟨⟨a1, s1⟩, h1, h_⟩ := ob_some h; clear h; have h := h_; clear h_
      obtain ⟨_, _, hdN, T1, W1, v, g1, hget, hop⟩ := oper_ok (ro := ro) hcl hyl he h1
      obtain ⟨T2, W2, g2, hrest⟩ := ops_seq hcl hyl l (i + 1) es' a1 a' s1 s' (fun k => by have := hl (k + 1); simpa [Nat.add_assoc, Nat.add_comm 1] using this) hes h
      refine ⟨T2 ++ T1, W2 ++ W1, g1.trans g2, fun m H W act Q hg ha hf hat hQ => ?_⟩
      have hoi : ops[i]? = some o := by have := hl 0; simpa using this.symm
      rw [List.length_cons, List.range'_succ, wpOpsIn_cons]
      refine hop m H W act _ Q i hoi hg ha.right (hf.right g2) (hat.rdall _) (fun m1 v' Wa hst hv => ?_)
      refine hrest m1 _ Wa _ Q hst.good (ha.left g1) (hf.left g1 hst) (AT.put (hat.mono hst.ext) hdN hget hv) (fun m2 act2 Wb hst2 hat2 hd2 => ?_)
      refine hQ m2 act2 Wb (Stp.trans g1 g2 hst hst2) hat2 (hd2.trans ?_)
      cases o.dst <;> rfl
    · cases hc
end
end Go.Proofs.Ytonckpblbdopmaa.Rk
