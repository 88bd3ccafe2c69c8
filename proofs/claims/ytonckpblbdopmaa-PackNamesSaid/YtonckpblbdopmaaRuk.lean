/-
  Reckoning a program in the kernel: statements, calls, rounds. Nothing of the program.
-/
import Derived.Test.YtonckpblbdopmaaRuj
import Derived.RangeFuncRecord
import Derived.Scope
namespace Go.Proofs.Ytonckpblbdopmaa.Rk
set_option linter.unusedVariables false
open Go
set_option maxHeartbeats 2000000
set_option linter.unusedSimpArgs false

section
variable {w0 : World} {P : Program} {ft : Tri EFn} {a a' : Tri AV} {s s' : St} {m : Tl} {H : Hp} {W : World}
def outE : Out → Exit
  | .norm => .normal
  | .exit id => .exit id
  | .ret => .ret
/-- The marks among the deferred calls. -/
def DS (m : Tl) : List Nat → List Deferred → Prop
  | [], [] => True
  | d :: ds, x :: xs => (∃ b, m d = some b ∧ x = { target := .collected b, args := #[] }) ∧ DS m ds xs
  | _, _ => False
theorem DS.mono {m m' : Tl} (hm : MExt m m') : ∀ {ds : List Nat} {xs : List Deferred}, DS m ds xs → DS m' ds xs
  | [], [], _ => trivial
  | _ :: _, _ :: _, ⟨⟨b, h1, h2⟩, h3⟩ => ⟨⟨b, (hm _ _ h1).1, h2⟩, h3.mono hm⟩
  | [], _ :: _, h => h.elim
  | _ :: _, [], h => h.elim
/-- What is reckoned of code holds of it in the model. -/
def CodeG (w0 : World) (P : Program) (N : Nat) (rd : Bool) (c : Code) (e : Out) (a a' : Tri AV) (ds ds' : List Nat) (s s' : St) : Prop :=
  ∃ T Wr, Seg s s' T Wr ∧ ∀ (ro : Option Nat) (m : Tl) (H : Hp) (W : World) (act : Act) (Q : Exit → Act → World → Prop), (rd = false → ro = none) → Good w0 P P.globals.size m H W → Agree H s T → Fresh m s s' → AT N m a act.tmps → DS m ds act.defers →
    (∀ m' act' W', Stp w0 P P.globals.size s s' Wr m m' H W W' → AT N m' a' act'.tmps → DS m' ds' act'.defers → Q (outE e) act' W') → c.wpIn (wf ro) 0 P Q act W
def CodeOk (w0 : World) (P : Program) (ih : Nat → Nat → Bool → ECode → Tri AV → List Nat → St → Rz) : Prop :=
  ∀ fid N rd c a ds s e a' ds' s', ih fid N rd (cCode P N c) a ds s = .ok e a' ds' s' → CodeG w0 P N rd c e a a' ds ds' s s'
theorem CodeG.refl {N : Nat} {rd : Bool} {c : Code} {e : Out} {ds : List Nat} (h : ∀ ro act W (Q : Exit → Act → World → Prop), Q (outE e) act W → c.wpIn (wf ro) 0 P Q act W) : CodeG w0 P N rd c e a a ds ds s s :=
  ⟨[], [], Seg.refl s, fun ro m H W act Q _ hg ha hf hat hds hQ => h ro act W Q (hQ m act W (Stp.refl hg) hat hds)⟩
theorem wpIn_scope_straight {ro : Option Nat} {n : Nat} {c : Code} {Q : Exit → Act → World → Prop} {act : Act} {w : World} (h : c.wpIn (wf ro) n P (Exit.noGoto Q) act w) : (Code.scope c).wpIn (wf ro) n P Q act w := by
  intro b k cs hro hb hr
  have s1 : step P (lone (b.atR act (.code (.scope c) :: k)) cs w) = .next (lone (b.atR act (.code c :: .inScope c :: k)) cs w) := step_lone_go (by simp [stepG, stepG.exec, Frame.atR])
  have s2 : ∀ a' w', step P (lone (b.atR a' (.inScope c :: k)) cs w') = .next (lone (b.atR a' k) cs w') := fun a' w' => step_lone_go (by simp [stepG, stepG.exec, Frame.atR])
  have h0 : (lone (b.atR act (.code (.scope c) :: k)) cs w).fenced P (wf ro) := fenced_calm hb hr rfl
  obtain ⟨e, a₁, w₁, hq, harr⟩ := h b (.inScope c :: k) cs hro hb hr
  cases e with
  | normal => exact ⟨.normal, a₁, w₁, hq, .head h0 s1 (StepsIn.trans harr (.one (fenced_calm hb hr rfl) (s2 a₁ w₁)))⟩
  | exit id =>
    have hx : exitTo id (.inScope c :: k) = exitTo id k := by simp [exitTo]
    exact ⟨.exit id, a₁, w₁, hq, fun k' hk => .head h0 s1 (harr.1 k' (by rw [hx]; exact hk)), fun hr' hk => let ⟨k₁, h1, h2⟩ := harr.2 hr' (by rw [hx]; exact hk); ⟨k₁, h1, .head h0 s1 h2⟩⟩
  | goto l => exact hq.elim
  | ret => exact ⟨_, a₁, w₁, hq, .of_steps (.one h0 s1) harr⟩
  | panic ch => exact ⟨_, a₁, w₁, hq, .of_steps (.one h0 s1) harr⟩
  | outgrown => exact ⟨_, a₁, w₁, hq, .of_steps (b := b) (k := k) (cs := cs) (e := .outgrown) (.one h0 s1) harr⟩
theorem noGoto_out {Q : Exit → Act → World → Prop} {e : Out} {act : Act} {w : World} (h : Q (outE e) act w) : Exit.noGoto Q (outE e) act w := by cases e <;> exact h
/-! ### Loops, unrolled -/
/-- A loop that comes out by its own k rounds. -/
def LoopsOut (P : Program) (ro : Option Nat) (c : Code) (Q : Exit → Act → World → Prop) : Nat → Act → World → Prop
  | 0, _, _ => False
  | k + 1, act, w => c.wpIn (wf ro) 0 P (Exit.then (LoopsOut P ro c Q k) Q) act w
theorem wpIn_loop_out {ro : Option Nat} {c : Code} {Q : Exit → Act → World → Prop} {act : Act} {w : World} {n : Nat} (h : LoopsOut P ro c Q n act w) : (Code.loop c).wpIn (wf ro) 0 P Q act w := by
  intro b k cs hro hb hr
  have key : ∀ j a w, LoopsOut P ro c Q j a w → ∃ e a' w', Q e a' w' ∧ ArrivesIn (Machine.fenced P (wf ro)) P (lone (b.atR a (.code c :: .inLoop c :: k)) cs w) b k cs e a' w' := by
    intro j
    induction j with
    | zero => intro a w h; exact h.elim
    | succ j ih =>
      intro a w h
      obtain ⟨e, a₁, w₁, hq, harr⟩ := h b (.inLoop c :: k) cs hro hb hr
      cases e with
      | normal =>
        obtain ⟨e₂, a₂, w₂, hq₂, harr₂⟩ := ih a₁ w₁ hq
        exact ⟨e₂, a₂, w₂, hq₂, .of_steps (StepsIn.trans harr (.one (fenced_calm hb hr rfl) stepR_inLoop)) harr₂⟩
      | exit id => exact ⟨_, a₁, w₁, hq, .pass (x := .inLoop c) rfl (fun _ _ => .inl (by simp)) harr⟩
      | goto l => exact ⟨_, a₁, w₁, hq, .pass (x := .inLoop c) rfl (fun _ _ => .inl (by simp)) harr⟩
      | ret => exact ⟨_, a₁, w₁, hq, .pass (x := .inLoop c) rfl (fun _ _ => .inl (by simp)) harr⟩
      | panic ch => exact ⟨_, a₁, w₁, hq, .pass (x := .inLoop c) rfl (fun _ _ => .inl (by simp)) harr⟩
      | outgrown => exact ⟨_, a₁, w₁, hq, .pass (x := .inLoop c) rfl (fun _ _ => .inl (by simp)) harr⟩
  obtain ⟨e, a', w', hq, harr⟩ := key n act w h
  exact ⟨e, a', w', hq, .of_steps (.one (fenced_calm hb hr rfl) stepR_loop) harr⟩
end
end Go.Proofs.Ytonckpblbdopmaa.Rk
