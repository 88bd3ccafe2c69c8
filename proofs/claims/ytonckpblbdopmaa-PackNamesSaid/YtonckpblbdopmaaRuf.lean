/-
  Reckoning a program in the kernel: calls; all operations together. Nothing of the program.
-/
import Derived.Test.YtonckpblbdopmaaRue
namespace Go.Proofs.Ytonckpblbdopmaa.Rk
set_option linter.unusedVariables false
open Go
set_option maxHeartbeats 1000000
set_option linter.unusedSimpArgs false

/-- Calls do in the model what is reckoned. -/
def ClOk (w0 : World) (P : Program) (cl : Nat → List AV → St → Option (AV × St)) : Prop := ∀ f args s v s', cl f args s = some (v, s') →
  (∃ fn, P.funcs[f]? = some fn ∧ fn.body.isNone = false ∧ (fn.name == "runtime.NumGoroutine") = false) ∧
  ∃ T Wr, Seg s s' T Wr ∧ ∀ (m : Tl) (H : Hp) (W : World) (vals : List Value) (R : Ending → World → Prop), Good w0 P P.globals.size m H W → Agree H s T → Fresh m s s' → LR m args vals →
    (∀ m' v' W', Stp w0 P P.globals.size s s' Wr m m' H W W' → VR m' v v' → R (.returned v') W') → CallsIn Fence.wide 0 P f ⟨vals⟩ W R
def YlOk (w0 : World) (P : Program) (yl : Nat → List AV → St → Option (AV × St)) : Prop := ∀ l args s v s', yl l args s = some (v, s') →
  ∃ T Wr, Seg s s' T Wr ∧ ∀ (m : Tl) (H : Hp) (W : World) (vals : List Value) (b : Nat) (R : Ending → World → Prop), Good w0 P P.globals.size m H W → Agree H s T → Fresh m s s' → LR m args vals → m l = some b →
    (∀ m' v' W', Stp w0 P P.globals.size s s' Wr m m' H W W' → VR m' v v' → R (.returned v') W') →
    ∃ f tmps as bo, (Instr.yield b ⟨vals⟩).run P W = .ok (.round b f tmps as bo) W ∧ RoundIn Fence.wide 0 P b f tmps as bo W R
section
variable {w0 : World} {P : Program} {a : Tri AV} {s s' : St} {o : Oper} {v : AV} {cl yl : Nat → List AV → St → Option (AV × St)}
theorem OpG.call {f : Operand} {args : Array Operand} {ats : Array TypeId} {f' : Opd} {args' : List Opd} (hcl : ClOk w0 P cl) (hyl : YlOk w0 P yl) (ho : o.op = .call { callee := .value f, args := args, argTypes := ats }) (hf : cO P f = some f') (ha : cOs P args.toList = some args')
    (h : evOp cl yl a s (.call f' args') = some (v, s')) : OpG w0 P a s s' o v := by
  obtain ⟨p, hp, h_⟩ := ob_some h; clear h; have h := h_; clear h_
  obtain ⟨as, has, h_⟩ := ob_some h; clear h; have h := h_; clear h_
  have hfm : f ∈ o.op.operands.toList := by simp [ho, Op.operands, Call.operands]
  have ham : ∀ y ∈ args.toList, y ∈ o.op.operands.toList := fun y hy => by simp [ho, Op.operands, Call.operands] at hy ⊢; exact .inr hy
  split at h
  · rename_i g first caps
    obtain ⟨⟨fn, hfn, hbody, hname⟩, T, Wr, hseg, hc⟩ := hcl _ _ _ _ _ h
    refine ⟨T, Wr, hseg, fun m H W act K hg hag hfr hr hK => ?_⟩
    have h1 := rdo_spec hf hp hr hfm hg.glob
    have h2 := rdos_spec hr hg.glob ha has ham
    generalize hz : act.eval f = z at h1
    cases h1
    rename_i vs us hl hv hl' hv'
    have hrun : (execOp act.eval o).run P W = .ok (.enter g ⟨vs ++ args.toList.map act.eval ++ us⟩) W := by
      have e : (Array.mk vs ++ args.map act.eval ++ Array.mk us) = ⟨vs ++ args.toList.map act.eval ++ us⟩ := by
        apply Array.ext'; simp
      simp only [execOp, ho, resolve, hz, Deferred.ofValue, Sem.run_bind, Sem.run_pure, Result.andThen_ok, invoke, callFunc, run_program, hfn, hname, Bool.false_eq_true, if_false, hbody, e]
    rw [hrun]
    exact hc m H W _ _ hg hag hfr ((LR.append (LR.append ⟨hl, hv⟩ h2) ⟨hl', hv'⟩)) (fun m' v' W' hst hvr => ⟨v', rfl, hK m' v' W' hst hvr⟩)
  · rename_i l
    obtain ⟨T, Wr, hseg, hc⟩ := hyl _ _ _ _ _ h
    refine ⟨T, Wr, hseg, fun m H W act K hg hag hfr hr hK => ?_⟩
    have h1 := rdo_spec hf hp hr hfm hg.glob
    have h2 := rdos_spec hr hg.glob ha has ham
    generalize hz : act.eval f = z at h1
    cases h1
    rename_i b hb
    obtain ⟨fn, tmps, as', bo, hy, hround⟩ := hc m H W _ b (fun e w' => ∃ v, e = .returned v ∧ K v w') hg hag hfr h2 hb (fun m' v' W' hst hvr => ⟨v', rfl, hK m' v' W' hst hvr⟩)
    have hrun : (execOp act.eval o).run P W = .ok (.round b fn tmps as' bo) W := by
      have e : args.map act.eval = ⟨args.toList.map act.eval⟩ := by
        apply Array.ext'; simp
      simp only [execOp, ho, resolve, hz, Deferred.ofValue, Sem.run_bind, Sem.run_pure, Result.andThen_ok, invoke, e]
      simpa using hy
    rw [hrun]
    exact hround
  · cases h
theorem cOps_inv {f : Opd → EOp} {x : Operand} {eo : EOp} (h : (cO P x).map f = some eo) : ∃ x', cO P x = some x' ∧ eo = f x' := by
  cases hx : cO P x with
  | none => rw [hx] at h; cases h
  | some x' => rw [hx] at h; cases h; exact ⟨x', rfl, rfl⟩
theorem bind_inv {α β : Type} {x : Option α} {f : α → Option β} {r : β} (h : x.bind f = some r) : ∃ y, x = some y ∧ f y = some r := by
  cases x with
  | none => cases h
  | some y => exact ⟨y, rfl, h⟩
theorem map_inv {α β : Type} {x : Option α} {f : α → β} {r : β} (h : x.map f = some r) : ∃ y, x = some y ∧ r = f y := by
  cases x with
  | none => cases h
  | some y => cases h; exact ⟨y, rfl, rfl⟩
theorem opCall_ok {c : Call} {eo : EOp} (hcl : ClOk w0 P cl) (hyl : YlOk w0 P yl) (ho : o.op = .call c) (hc : cCall P c = some eo) (h : evOp cl yl a s eo = some (v, s')) : OpG w0 P a s s' o v := by
  obtain ⟨callee, args, ats⟩ := c
  unfold cCall at hc
  split at hc
  · rename_i f hcal
    dsimp only at hcal hc
    subst hcal
    obtain ⟨f', hf, hc_⟩ := bind_inv hc; clear hc; have hc := hc_; clear hc_
    obtain ⟨as', has, rfl⟩ := map_inv hc
    exact OpG.call hcl hyl ho hf has h
  · rename_i hcal
    dsimp only at hcal hc
    subst hcal
    split at hc
    · rename_i t x hats hargs
      have ea : args = #[x] := by apply Array.ext'; simpa using hargs
      have et : ats = #[t] := by apply Array.ext'; simpa using hats
      subst ea; subst et
      split at hc
      · rename_i ht
        obtain ⟨x', hx, rfl⟩ := map_inv hc
        exact OpG.len ho (.inl ⟨rfl, ht⟩) hx h
      · rename_i e ht
        obtain ⟨x', hx, rfl⟩ := map_inv hc
        exact OpG.len ho (.inr ⟨rfl, _, ht⟩) hx h
      · rename_i n e ht
        obtain ⟨x', hx, rfl⟩ := map_inv hc
        refine OpG.lit (y := .int .i64 n) (u := .int .i64 n) (fun act W => ?_) (fun m => .int _ _) h
        simp [execOp, ho, resolve, invoke, builtin, Builtin.len_, run_und ht, goInt]
      · cases hc
    · cases hc
  · rename_i hcal
    dsimp only at hcal hc
    subst hcal
    split at hc
    · rename_i t u x y hats hargs
      have ea : args = #[x, y] := by apply Array.ext'; simpa using hargs
      have et : ats = #[t, u] := by apply Array.ext'; simpa using hats
      subst ea; subst et
      split at hc
      · cases hc
      · rename_i e d hnot ht hu
        split at hc
        · rename_i i hi
          split at hc
          · cases hc
          · rename_i hno
            simp only [Bool.or_eq_true, decide_eq_true_eq, not_or] at hno
            obtain ⟨⟨⟨h0, h1⟩, h2⟩, h3⟩ := hno
            obtain ⟨x', hx, hc_⟩ := bind_inv hc; clear hc; have hc := hc_; clear hc_
            obtain ⟨y', hy, rfl⟩ := map_inv hc
            cases hz : zeroT P e with
            | none => rw [hz] at h3; exact absurd rfl h3
            | some z =>
              rw [hz] at h3
              simp only [Option.all_some, decide_eq_true_eq, ne_eq, Decidable.not_not] at h3
              exact OpG.app ho ht hu (fun k hk => hnot k hk) hi hz h3 h0 h1 (by omega) hx hy h
        · cases hc
      · cases hc
    · cases hc
  · rename_i hcal
    dsimp only at hcal hc
    subst hcal
    split at hc
    · rename_i t u x y hats hargs
      have ea : args = #[x, y] := by apply Array.ext'; simpa using hargs
      have et : ats = #[t, u] := by apply Array.ext'; simpa using hats
      subst ea; subst et
      split at hc
      · rename_i e ht
        obtain ⟨n, hn, hc_⟩ := bind_inv hc; clear hc; have hc := hc_; clear hc_
        obtain ⟨x', hx, hc_⟩ := bind_inv hc; clear hc; have hc := hc_; clear hc_
        obtain ⟨y', hy, rfl⟩ := map_inv hc
        exact OpG.copy ho ht hn hx hy h
      · cases hc
    · cases hc
  · rename_i hcal
    dsimp only at hcal hc
    subst hcal
    split at hc
    · rename_i x y hargs
      have ea : args = #[x, y] := by apply Array.ext'; simpa using hargs
      subst ea
      obtain ⟨x', hx, hc_⟩ := bind_inv hc; clear hc; have hc := hc_; clear hc_
      obtain ⟨y', hy, rfl⟩ := map_inv hc
      exact OpG.maxmin (mx := true) ho hx hy h
    · cases hc
  · rename_i hcal
    dsimp only at hcal hc
    subst hcal
    split at hc
    · rename_i x y hargs
      have ea : args = #[x, y] := by apply Array.ext'; simpa using hargs
      subst ea
      obtain ⟨x', hx, hc_⟩ := bind_inv hc; clear hc; have hc := hc_; clear hc_
      obtain ⟨y', hy, rfl⟩ := map_inv hc
      exact OpG.maxmin (mx := false) ho hx hy h
    · cases hc
  · cases hc
theorem opBin_ok {op : BinOp} {t u : TypeId} {x y : Operand} {eo : EOp} (ho : o.op = .binOp op t x y u) (hc : cBin P op t x y = some eo) (h : evOp cl yl a s eo = some (v, s')) : OpG w0 P a s s' o v := by
  have key : ∀ {eo}, ((cO P x).bind fun x => (cO P y).map fun y => EOp.bin op x y) = some eo → evOp cl yl a s eo = some (v, s') → OpG w0 P a s s' o v := by
    intro eo hc h
    obtain ⟨x', hx, hc_⟩ := bind_inv hc; clear hc; have hc := hc_; clear hc_
    obtain ⟨y', hy, rfl⟩ := map_inv hc
    exact OpG.bin ho hx hy h
  unfold cBin at hc
  split at hc
  · split at hc
    · exact key hc h
    · exact key hc h
    · obtain ⟨e, he, hc_⟩ := bind_inv hc; clear hc; have hc := hc_; clear hc_
      obtain ⟨x', hx, hc_⟩ := bind_inv hc; clear hc; have hc := hc_; clear hc_
      obtain ⟨y', hy, rfl⟩ := map_inv hc
      exact OpG.eq (neg := false) ho he hx hy h
  · split at hc
    · exact key hc h
    · exact key hc h
    · obtain ⟨e, he, hc_⟩ := bind_inv hc; clear hc; have hc := hc_; clear hc_
      obtain ⟨x', hx, hc_⟩ := bind_inv hc; clear hc; have hc := hc_; clear hc_
      obtain ⟨y', hy, rfl⟩ := map_inv hc
      exact OpG.eq (neg := true) ho he hx hy h
  · exact key hc h
theorem op_ok {eo : EOp} (hcl : ClOk w0 P cl) (hyl : YlOk w0 P yl) (hc : cOp P o.op = some eo) (h : evOp cl yl a s eo = some (v, s')) : OpG w0 P a s s' o v := by
  cases hop : o.op <;> rw [hop] at hc <;> simp only [cOp] at hc <;> (try (cases hc; done))
  case move x => obtain ⟨x', hx, rfl⟩ := map_inv hc; exact OpG.mov (.inl hop) hx h
  case assign x => obtain ⟨x', hx, rfl⟩ := map_inv hc; exact OpG.mov (.inr hop) hx h
  case pick c x y =>
    obtain ⟨c', hc', hc_⟩ := bind_inv hc; clear hc; have hc := hc_; clear hc_
    obtain ⟨x', hx, hc_⟩ := bind_inv hc; clear hc; have hc := hc_; clear hc_
    obtain ⟨y', hy, rfl⟩ := map_inv hc
    exact OpG.pick hop hc' hx hy h
  case alloc t => obtain ⟨z, hz, rfl⟩ := map_inv hc; exact OpG.alloc hop hz h
  case box t x => obtain ⟨x', hx, rfl⟩ := map_inv hc; exact OpG.box hop hx h
  case build t ps =>
    obtain ⟨z, hz, hc_⟩ := bind_inv hc; clear hc; have hc := hc_; clear hc_
    split at hc
    · rename_i fs ht
      obtain ⟨pl, hpl, hc_⟩ := bind_inv hc; clear hc; have hc := hc_; clear hc_
      obtain ⟨l, hl, rfl⟩ := map_inv hc
      exact OpG.buildS hop hz ht hpl hl h
    · rename_i n e ht
      obtain ⟨k, hk, hc_⟩ := bind_inv hc; clear hc; have hc := hc_; clear hc_
      obtain ⟨l, hl, rfl⟩ := map_inv hc
      exact OpG.buildA hop hz ht hk hl h
    · cases hc
  case buildSlice t len ps =>
    split at hc
    · rename_i e ht
      obtain ⟨n, hn, hc_⟩ := bind_inv hc; clear hc; have hc := hc_; clear hc_
      split at hc
      · rename_i h0
        subst h0
        split at hc
        · rename_i hps
          cases hc
          exact OpG.buildSl0 hop ht hn hps h
        · cases hc
      · split at hc
        · cases hc
        · rename_i hno
          simp only [Bool.or_eq_true, decide_eq_true_eq, not_or] at hno
          obtain ⟨z, hz, hc_⟩ := bind_inv hc; clear hc; have hc := hc_; clear hc_
          split at hc
          · rename_i hzl
            obtain ⟨l, hl, rfl⟩ := map_inv hc
            exact OpG.buildSl hop ht hn hno.1 (by omega) hz hzl hl h
          · cases hc
    · cases hc
  case load t x =>
    obtain ⟨n, hn, hc_⟩ := bind_inv hc; clear hc; have hc := hc_; clear hc_
    obtain ⟨x', hx, rfl⟩ := map_inv hc
    cases n with
    | none => exact OpG.load1 hop hn hx h
    | some k => exact OpG.loadN hop hn hx h
  case store t x y =>
    obtain ⟨n, hn, hc_⟩ := bind_inv hc; clear hc; have hc := hc_; clear hc_
    obtain ⟨x', hx, hc_⟩ := bind_inv hc; clear hc; have hc := hc_; clear hc_
    obtain ⟨y', hy, rfl⟩ := map_inv hc
    exact OpG.store hop hn hx hy h
  case nilCheck x => obtain ⟨x', hx, rfl⟩ := map_inv hc; exact OpG.nilck hop hx h
  case binOp op t x y u => exact opBin_ok hop hc h
  case unOp op t x => obtain ⟨x', hx, rfl⟩ := map_inv hc; exact OpG.un hop hx h
  case convert t u x =>
    split at hc
    · rename_i d k ht hu
      obtain ⟨x', hx, rfl⟩ := map_inv hc
      exact OpG.conv hop ht hu hx h
    · rename_i e ht hu
      split at hc
      · rename_i he
        obtain ⟨x', hx, rfl⟩ := map_inv hc
        exact OpG.b2s hop ht hu he hx h
      · cases hc
    · cases hc
  case makeFunc fn first caps =>
    cases fn <;> simp only [cOp] at hc <;> try cases hc
    obtain ⟨x', hx, hc_⟩ := bind_inv hc; clear hc; have hc := hc_; clear hc_
    obtain ⟨y', hy, rfl⟩ := map_inv hc
    exact OpG.mkfn hop hx hy h
  case makeSlice t l c =>
    split at hc
    · rename_i e ht
      split at hc
      · rename_i i z hi hz
        split at hc
        · rename_i hcond
          simp only [Bool.and_eq_true, decide_eq_true_eq] at hcond
          obtain ⟨l', hl, hc_⟩ := bind_inv hc; clear hc; have hc := hc_; clear hc_
          obtain ⟨c', hc', rfl⟩ := map_inv hc
          exact OpG.mksl hop ht hi hz hcond.1 hcond.2 hl hc' h
        · cases hc
      · cases hc
    · cases hc
  case slice t x lo hi mx =>
    cases mx with
    | none =>
      simp only [cOp] at hc
      obtain ⟨x', hx, hc_⟩ := bind_inv hc; clear hc; have hc := hc_; clear hc_
      obtain ⟨lo', hlo, hc_⟩ := bind_inv hc; clear hc; have hc := hc_; clear hc_
      obtain ⟨hi', hhi, hc_⟩ := bind_inv hc; clear hc; have hc := hc_; clear hc_
      split at hc
      · rename_i ht
        cases hc
        exact OpG.slcS hop ht hx hlo hhi h
      · rename_i e ht
        obtain ⟨n, hn, rfl⟩ := map_inv hc
        exact OpG.slc hop ht hn hx hlo hhi h
      · rename_i n e ht
        obtain ⟨k, hk, rfl⟩ := map_inv hc
        exact OpG.slcA hop ht hk hx hlo hhi h
      · cases hc
    | some mx =>
      cases hi with
      | none => simp only [cOp] at hc; cases hc
      | some hi =>
        simp only [cOp] at hc
        obtain ⟨x', hx, hc_⟩ := bind_inv hc; clear hc; have hc := hc_; clear hc_
        obtain ⟨lo', hlo, hc_⟩ := bind_inv hc; clear hc; have hc := hc_; clear hc_
        obtain ⟨hi', hhi, hc_⟩ := bind_inv hc; clear hc; have hc := hc_; clear hc_
        obtain ⟨mx', hmx, hc_⟩ := bind_inv hc; clear hc; have hc := hc_; clear hc_
        split at hc
        · rename_i e ht
          obtain ⟨n, hn, rfl⟩ := map_inv hc
          exact OpG.slc3 hop ht hn hx hlo hhi hmx h
        · cases hc
  case fieldAddr st x f =>
    split at hc
    · rename_i fs hs
      split at hc
      · rename_i fd hfd
        obtain ⟨n, hn, hc_⟩ := bind_inv hc; clear hc; have hc := hc_; clear hc_
        split at hc
        · cases hc
        · rename_i h0
          obtain ⟨x', hx, rfl⟩ := map_inv hc
          exact OpG.faddr hop hs hfd hn h0 hx h
      · cases hc
    · cases hc
  case field t x f =>
    split at hc
    · rename_i fs hs
      split at hc
      · rename_i fd hfd
        obtain ⟨n, hn, hc_⟩ := bind_inv hc; clear hc; have hc := hc_; clear hc_
        obtain ⟨x', hx, rfl⟩ := map_inv hc
        exact OpG.field hop hs hfd hn hx h
      · cases hc
    · cases hc
  case indexAddr t x i =>
    split at hc
    · rename_i len e ht
      obtain ⟨n, hn, hc_⟩ := bind_inv hc; clear hc; have hc := hc_; clear hc_
      obtain ⟨x', hx, hc_⟩ := bind_inv hc; clear hc; have hc := hc_; clear hc_
      obtain ⟨i', hi, rfl⟩ := map_inv hc
      exact OpG.iaddrA hop ht hn hx hi h
    · rename_i e ht
      obtain ⟨n, hn, hc_⟩ := bind_inv hc; clear hc; have hc := hc_; clear hc_
      obtain ⟨x', hx, hc_⟩ := bind_inv hc; clear hc; have hc := hc_; clear hc_
      obtain ⟨i', hi, rfl⟩ := map_inv hc
      exact OpG.iaddrS hop ht hn hx hi h
    · cases hc
  case index t x i =>
    split at hc
    · rename_i len e ht
      obtain ⟨k, hk, hc_⟩ := bind_inv hc; clear hc; have hc := hc_; clear hc_
      obtain ⟨n, hn, hc_⟩ := bind_inv hc; clear hc; have hc := hc_; clear hc_
      obtain ⟨x', hx, hc_⟩ := bind_inv hc; clear hc; have hc := hc_; clear hc_
      obtain ⟨i', hi, rfl⟩ := map_inv hc
      exact OpG.idxA hop ht hk hn hx hi h
    · rename_i ht
      obtain ⟨x', hx, hc_⟩ := bind_inv hc; clear hc; have hc := hc_; clear hc_
      obtain ⟨i', hi, rfl⟩ := map_inv hc
      exact OpG.idxS hop ht hx hi h
    · cases hc
  case extract x i => obtain ⟨x', hx, rfl⟩ := map_inv hc; exact OpG.ext hop hx h
  case call c => exact opCall_ok hcl hyl hop hc h
  case range t x =>
    split at hc
    · rename_i ht
      obtain ⟨x', hx, rfl⟩ := map_inv hc
      exact OpG.rng hop ht hx h
    · cases hc
  case next x b =>
    cases b <;> simp only [cOp] at hc <;> try (cases hc; done)
    obtain ⟨x', hx, rfl⟩ := map_inv hc
    exact OpG.nxt hop hx h
  case makeMap t r =>
    cases r <;> simp only [cOp] at hc <;> cases hc
    exact OpG.mkmap hop h
  case lookup t x k ok =>
    split at hc
    · rename_i kt e ht
      split at hc
      · rename_i hk
        obtain ⟨z, hz, hc_⟩ := bind_inv hc; clear hc; have hc := hc_; clear hc_
        obtain ⟨za, hza, hc_⟩ := bind_inv hc; clear hc; have hc := hc_; clear hc_
        obtain ⟨x', hx, hc_⟩ := bind_inv hc; clear hc; have hc := hc_; clear hc_
        obtain ⟨k', hk', rfl⟩ := map_inv hc
        exact OpG.lookup hop ht hk hz hza hx hk' h
      · cases hc
    · cases hc
  case mapUpdate t x k y =>
    split at hc
    · rename_i kt e ht
      split at hc
      · rename_i hk
        obtain ⟨x', hx, hc_⟩ := bind_inv hc; clear hc; have hc := hc_; clear hc_
        obtain ⟨k', hk', hc_⟩ := bind_inv hc; clear hc; have hc := hc_; clear hc_
        obtain ⟨y', hy, rfl⟩ := map_inv hc
        exact OpG.mapup hop ht hk hx hk' hy h
      · cases hc
    · cases hc
end
end Go.Proofs.Ytonckpblbdopmaa.Rk
