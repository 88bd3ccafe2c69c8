/-
  Reckoning a program in the kernel: what an operation must do in the model; operations that look at no memory. Nothing of the program.
-/
import Derived.Test.YtonckpblbdopmaaRu5
namespace Go.Proofs.Ytonckpblbdopmaa.Rk
set_option linter.unusedVariables false
open Go

section
variable {w0 : World} {P : Program}
theorem run_und {t : TypeId} {d : TypeDesc} (h : P.underlying t = some d) (w : World) : (underlying t).run P w = .ok d w := by simp [underlying, h]
theorem run_info {t : TypeId} {i : TypeInfo} (h : P.info? t = some i) (w : World) : (typeInfo t).run P w = .ok i w := by simp [typeInfo, h]
theorem run_sz {t : TypeId} {n : Nat} (h : szT P t = some n) (w : World) : (sizeOf t).run P w = .ok n w := by
  unfold szT at h
  cases hi : P.info? t with
  | none => rw [hi] at h; cases h
  | some i => rw [hi] at h; cases h; simp [sizeOf, run_info hi]
theorem run_zero {t : TypeId} {v : Value} (h : zeroT P t = some v) (w : World) : (zeroValue t).run P w = .ok v w := by
  unfold zeroT at h
  cases hi : P.info? t with
  | none => rw [hi] at h; cases h
  | some i => rw [hi] at h; simp at h; simp [zeroValue, run_info hi, h]
theorem run_agg {t : TypeId} {n : Option Nat} (h : aggT P t = some n) (w : World) : (isAgg t).run P w = .ok n.isSome w ∧ (∀ k, n = some k → szT P t = some k) := by
  unfold aggT at h
  unfold isAgg
  cases hu : P.underlying t with
  | none => rw [hu] at h; cases h
  | some d =>
    rw [hu] at h
    simp only [Sem.run_bind, run_und hu, Result.andThen_ok]
    cases d <;> simp only at h <;> first
      | (cases h; exact ⟨rfl, fun k hk => by cases hk⟩)
      | (cases hs : szT P t with
         | none => rw [hs] at h; cases h
         | some k => rw [hs] at h; cases h; exact ⟨rfl, fun j hj => by cases hj; rfl⟩)
theorem cS_spec {v : Value} {a : AV} (h : cS v = some a) (m : Tl) : VR m a v := by
  unfold cS at h
  split at h <;> (try first | (cases h; done) | (cases h; first | exact .int _ _ | exact .bool _ | exact .nilp | exact .nils | exact .nilf | exact .nilm))
  · rename_i s
    cases h
    exact .str _
  · rename_i f x y
    split at h
    · rename_i hs
      simp only [Bool.and_eq_true, decide_eq_true_eq] at hs
      cases h
      have hx : x = #[] := Array.eq_empty_of_size_eq_zero hs.1
      have hy : y = #[] := Array.eq_empty_of_size_eq_zero hs.2
      subst hx; subst hy
      exact .fn f rfl (fun i a v ha _ => by simp at ha) rfl (fun i a v ha _ => by simp at ha)
    · cases h
theorem cSs_spec (m : Tl) : ∀ {vs : List Value} {l : List AV}, cSs vs = some l → LR m l vs
  | [], l, h => by cases h; exact LR.nil m
  | v :: vs, l, h => by
    unfold cSs at h
    split at h
    · rename_i a l' h1 h2
      cases h
      exact LR.cons (cS_spec h1 m) (cSs_spec m h2)
    · cases h
theorem cV_spec {v : Value} {a : AV} (h : cV v = some a) (m : Tl) : VR m a v := by
  unfold cV at h
  split at h
  · rename_i cs
    cases hs : cSs cs.toList with
    | none => rw [hs] at h; cases h
    | some l => rw [hs] at h; cases h; have := cSs_spec m hs; exact .agg this.1 this.2
  · rename_i vs
    split at h
    · rename_i h0
      cases h
      have hx : vs = #[] := Array.eq_empty_of_size_eq_zero h0
      subst hx
      exact .tup rfl (fun i a v ha _ => by simp at ha)
    · cases h
  · exact cS_spec h m
/-- What the operands named hold. -/
def RdOk (m : Tl) (a : Tri AV) (act : Act) (xs : List Operand) : Prop := ∀ t v, Operand.tmp t ∈ xs → a.get (pt t) = some v → VR m v (act.eval (.tmp t))
theorem RdOk.sub {m : Tl} {a : Tri AV} {act : Act} {xs ys : List Operand} (h : RdOk m a act xs) (hs : ∀ x ∈ ys, x ∈ xs) : RdOk m a act ys := fun t v ht hv => h t v (hs _ ht) hv
theorem rdo_spec {m : Tl} {a : Tri AV} {act : Act} {xs : List Operand} {x : Operand} {o : Opd} {v : AV} (hx : cO P x = some o) (hv : rdo a o = some v) (hr : RdOk m a act xs) (hm : x ∈ xs)
    (hg : ∀ g, g < P.globals.size → m g = some g) : VR m v (act.eval x) := by
  cases x with
  | tmp t => simp only [cO, Option.some.injEq] at hx; subst hx; rw [ptc_eq] at hv; exact hr t v hm hv
  | const u =>
    simp only [cO] at hx
    cases hu : cV u with
    | none => rw [hu] at hx; cases hx
    | some a' => rw [hu] at hx; cases hx; cases hv; exact cV_spec hu m
  | global g =>
    simp only [cO] at hx
    split at hx
    · rename_i hlt; cases hx; cases hv; exact .ptr 0 (hg g hlt)
    · cases hx
  | func f => simp only [cO, Option.some.injEq] at hx; subst hx; cases hv; exact .fn f rfl (fun i a v ha _ => by simp at ha) rfl (fun i a v ha _ => by simp at ha)
theorem rdos_spec {m : Tl} {a : Tri AV} {act : Act} {xs : List Operand} (hr : RdOk m a act xs) (hg : ∀ g, g < P.globals.size → m g = some g) :
    ∀ {ys : List Operand} {os : List Opd} {vs : List AV}, cOs P ys = some os → rdos a os = some vs → (∀ y ∈ ys, y ∈ xs) → LR m vs (ys.map act.eval)
  | [], os, vs, h, hv, _ => by cases h; cases hv; exact LR.nil m
  | y :: ys, os, vs, h, hv, hm => by
    unfold cOs at h
    split at h
    · rename_i o os' h1 h2
      cases h
      obtain ⟨v, hv1, hv⟩ := ob_some hv
      obtain ⟨vs', hv2, hv⟩ := ob_some hv
      cases hv
      exact LR.cons (rdo_spec h1 hv1 hr (hm y (by simp)) hg) (rdos_spec hr hg h2 hv2 (fun z hz => hm z (List.mem_cons_of_mem _ hz)))
    · cases h

/-- What an operation comes to. -/
def OpOut (P : Program) (K : Value → World → Prop) : Result Next → Prop
  | .ok (.value v) w => K v w
  | .ok .skip w => K undef w
  | .ok (.enter f args) w => CallsIn Fence.wide 0 P f args w fun e w' => ∃ v, e = .returned v ∧ K v w'
  | .ok (.round l f tmps as bo) w => RoundIn Fence.wide 0 P l f tmps as bo w fun e w' => ∃ v, e = .returned v ∧ K v w'
  | _ => False
/-- An operation does in the model what is reckoned. -/
def OpG (w0 : World) (P : Program) (a : Tri AV) (s s' : St) (o : Oper) (v : AV) : Prop :=
  ∃ T Wr, Seg s s' T Wr ∧ ∀ (m : Tl) (H : Hp) (W : World) (act : Act) (K : Value → World → Prop), Good w0 P P.globals.size m H W → Agree H s T → Fresh m s s' → RdOk m a act o.op.operands.toList →
    (∀ m' v' W', Stp w0 P P.globals.size s s' Wr m m' H W W' → VR m' v v' → K v' W') → OpOut P K ((execOp act.eval o).run P W)
theorem OpG.pure {a : Tri AV} {s : St} {o : Oper} {v : AV} (h : ∀ (m : Tl) (W : World) (act : Act), (∀ g, g < P.globals.size → m g = some g) → RdOk m a act o.op.operands.toList → ∃ v', (execOp act.eval o).run P W = .ok (.value v') W ∧ VR m v v') : OpG w0 P a s s o v := by
  refine ⟨[], [], Seg.refl s, fun m H W act K hg _ _ hr hK => ?_⟩
  obtain ⟨v', h1, h2⟩ := h m W act hg.glob hr
  rw [h1]
  exact hK m v' W (Stp.refl hg) h2
theorem pureO_some {s s' : St} {x : Option AV} {v : AV} (h : pureO s x = some (v, s')) : x = some v ∧ s' = s := by
  obtain ⟨u, h1, h2⟩ := ob_some h
  cases h2
  exact ⟨h1, rfl⟩
variable {a : Tri AV} {s s' : St} {o : Oper} {v : AV}
theorem OpG.mov {x : Operand} {y : Opd} (ho : o.op = .move x ∨ o.op = .assign x) (hc : cO P x = some y) (h : pureO s (rdo a y) = some (v, s')) : OpG w0 P a s s' o v := by
  obtain ⟨h1, rfl⟩ := pureO_some h
  refine .pure fun m W act hg hr => ⟨act.eval x, ?_, ?_⟩
  · rcases ho with ho | ho <;> simp [execOp, ho]
  · exact rdo_spec hc h1 hr (by rcases ho with ho | ho <;> simp [ho, Op.operands]) hg
theorem OpG.lit {y : Value} {u : AV} (hrun : ∀ (act : Act) (W : World), (execOp act.eval o).run P W = .ok (.value y) W) (hu : ∀ m, VR m u y) (h : pureO s (some u) = some (v, s')) : OpG w0 P a s s' o v := by
  obtain ⟨h1, rfl⟩ := pureO_some h
  cases h1
  exact .pure fun m W act hg hr => ⟨y, hrun act W, hu m⟩
theorem OpG.pick {c x y : Operand} {c' x' y' : Opd} (ho : o.op = .pick c x y) (hc : cO P c = some c') (hx : cO P x = some x') (hy : cO P y = some y') {cl yl : Nat → List AV → St → Option (AV × St)}
    (h : evOp cl yl a s (.pick c' x' y') = some (v, s')) : OpG w0 P a s s' o v := by
  obtain ⟨b, hb, h⟩ := ob_some h
  cases b <;> simp only at h <;> try cases h
  rename_i b
  have key : s' = s ∧ rdo a (if b then x' else y') = some v := by
    cases b
    · obtain ⟨h1, h2⟩ := pureO_some h; exact ⟨h2, h1⟩
    · obtain ⟨h1, h2⟩ := pureO_some h; exact ⟨h2, h1⟩
  obtain ⟨rfl, hv⟩ := key
  refine .pure fun m W act hg hr => ⟨if b then act.eval x else act.eval y, ?_, ?_⟩
  · have h1 := rdo_spec hc hb hr (by simp [ho, Op.operands]) hg
    generalize hz : act.eval c = z at h1
    cases h1
    simp [execOp, ho, hz, asBool]
  · cases b
    · exact rdo_spec hy hv hr (by simp [ho, Op.operands]) hg
    · exact rdo_spec hx hv hr (by simp [ho, Op.operands]) hg
theorem OpG.mkfn {f : FuncId} {first caps : Array Operand} {x y : List Opd} (ho : o.op = .makeFunc (.func f) first caps) (hx : cOs P first.toList = some x) (hy : cOs P caps.toList = some y)
    {cl yl : Nat → List AV → St → Option (AV × St)} (h : evOp cl yl a s (.mkfn f x y) = some (v, s')) : OpG w0 P a s s' o v := by
  obtain ⟨u, hu, h⟩ := ob_some h
  obtain ⟨z, hz, h⟩ := ob_some h
  cases h
  refine .pure fun m W act hg hr => ⟨.func (.func f) (first.map act.eval) (caps.map act.eval), ?_, ?_⟩
  · simp [execOp, ho, Instr.makeFunc]
  · have h1 := rdos_spec hr hg hx hu (fun q hq => by simp [ho, Op.operands] at hq ⊢; exact .inl hq)
    have h2 := rdos_spec hr hg hy hz (fun q hq => by simp [ho, Op.operands] at hq ⊢; exact .inr hq)
    have e1 : first.map act.eval = ⟨first.toList.map act.eval⟩ := by apply Array.ext'; simp
    have e2 : caps.map act.eval = ⟨caps.toList.map act.eval⟩ := by apply Array.ext'; simp
    rw [e1, e2]
    exact .fn f h1.1 h1.2 h2.1 h2.2
theorem OpG.nilck {x : Operand} {y : Opd} (ho : o.op = .nilCheck x) (hc : cO P x = some y) {cl yl : Nat → List AV → St → Option (AV × St)} (h : evOp cl yl a s (.nilck y) = some (v, s')) : OpG w0 P a s s' o v := by
  obtain ⟨u, hu, h⟩ := ob_some h
  have key : s' = s ∧ v = u ∧ ((∃ n k, u = .ptr n k) ∨ (∃ f x y, u = .fn f x y) ∨ (∃ l, u = .yld l)) := by
    cases u <;> simp only at h <;> cases h
    · exact ⟨rfl, rfl, .inl ⟨_, _, rfl⟩⟩
    · exact ⟨rfl, rfl, .inr (.inl ⟨_, _, _, rfl⟩)⟩
    · exact ⟨rfl, rfl, .inr (.inr ⟨_, rfl⟩)⟩
  obtain ⟨rfl, rfl, hk⟩ := key
  refine .pure fun m W act hg hr => ⟨act.eval x, ?_, rdo_spec hc hu hr (by simp [ho, Op.operands]) hg⟩
  have h1 := rdo_spec hc hu hr (by simp [ho, Op.operands]) hg
  generalize hz : act.eval x = z at h1
  rcases hk with ⟨n, k, rfl⟩ | ⟨f, p, q, rfl⟩ | ⟨l, rfl⟩ <;> cases h1 <;> simp [execOp, ho, hz]
theorem two_pow (n : Nat) : ((2 : Int) ^ n) = ((2 ^ n : Nat) : Int) := by push_cast; rfl
theorem shN_eq (y : Int) (hy : 0 ≤ y) (b : Nat) : shN y b = min y.toNat b := by
  unfold shN
  cases y with
  | ofNat n =>
    show (Bool.rec b n (Nat.ble n b) : Nat) = min n b
    cases h : Nat.ble n b with
    | true => have := Nat.le_of_ble_eq_true h; show n = _; omega
    | false => have : ¬ n ≤ b := fun e => by rw [Nat.ble_eq_true_of_le e] at h; cases h
               show b = _; omega
  | negSucc n => omega
theorem run_shift {op : BinOp} {k j : IntKind} {x y : Int} {v : AV} (hop : op = .shl ∨ op = .shr) (h : binI op k x j y = some v) (w : World) (m : Tl) : ∃ u, (Op.shift op k x j y).run P w = .ok u w ∧ VR m v u := by
  rcases hop with rfl | rfl
  · simp only [binI] at h
    obtain ⟨h1, h⟩ := rec_some h
    rw [ble_eq, decide_eq_true_iff] at h1
    rw [mkI_eq] at h
    cases h
    refine ⟨_, ?_, .int _ _⟩
    rw [shN_eq y h1, ← two_pow]
    have : ¬ y < 0 := by omega
    simp [Op.shift, this]
  · simp only [binI] at h
    obtain ⟨h1, h⟩ := rec_some h
    rw [ble_eq, decide_eq_true_iff] at h1
    rw [fI_eq] at h
    cases h
    refine ⟨_, ?_, .int _ _⟩
    rw [shN_eq y h1, ← two_pow]
    have : ¬ y < 0 := by omega
    simp [Op.shift, this]
end
end Go.Proofs.Ytonckpblbdopmaa.Rk
