/-
  Reckoning a program in the kernel: a call of a function, a round of a range over a function. Nothing of the program.
-/
import Derived.Test.YtonckpblbdopmaaRuk
import Derived.Below
namespace Go.Proofs.Ytonckpblbdopmaa.Rk
set_option linter.unusedVariables false
open Go Go.RowKit
set_option maxHeartbeats 2000000
set_option linter.unusedSimpArgs false

section
variable {w0 : World} {P : Program} {ft : Tri EFn} {a a' : Tri AV} {s s' : St} {m : Tl} {H : Hp} {W : World}
theorem argT_get : ∀ (args : List AV) (i : Nat) (t : Tri AV) (k : Nat), (argT args i t).get (pt k) = if i ≤ k then (match args[k - i]? with | some v => some v | none => t.get (pt k)) else t.get (pt k)
  | [], i, t, k => by
    show t.get (pt k) = _
    split <;> simp
  | v :: args, i, t, k => by
    have : argT (v :: args) i t = argT args (i + 1) (t.set (some v) (pt i)) := rfl
    rw [this, argT_get args (i + 1) _ k]
    by_cases hik : i + 1 ≤ k
    · rw [if_pos hik, if_pos (by omega)]
      have e : k - i = (k - (i + 1)) + 1 := by omega
      rw [e, List.getElem?_cons_succ]
      cases args[k - (i + 1)]? with
      | some u => rfl
      | none => exact Tri.set_other _ _ _ _ (fun q => by have := pt_inj q; omega)
    · rw [if_neg hik]
      by_cases he : i = k
      · subst he
        rw [if_pos (Nat.le_refl _), Nat.sub_self]
        simp only [List.getElem?_cons_zero]
        exact Tri.set_same _ _ _
      · rw [if_neg (by omega)]
        exact Tri.set_other _ _ _ _ (fun q => he (pt_inj q))
theorem AT.args {N : Nat} {args : List AV} {vals : List Value} (h : LR m args vals) : AT N m (argT args 0 .leaf) ((Array.mk vals) ++ Array.replicate (N - (Array.mk vals).size) undef) := by
  refine ⟨by simp; omega, fun t v hv => ?_⟩
  rw [argT_get, if_pos (Nat.zero_le _), Nat.sub_zero] at hv
  cases ha : args[t]? with
  | none => rw [ha] at hv; rw [Tri.get_leaf] at hv; cases hv
  | some u =>
    rw [ha] at hv
    cases hv
    obtain ⟨w, hw, hvr⟩ := h.get ha
    have hlt := (List.getElem?_eq_some_iff.1 hw).1
    exact ⟨w, by rw [Array.getElem?_append_left (by simpa using hlt)]; simpa using hw, hvr⟩
/-- The marks are come to. -/
theorem takeD_spec : ∀ {ds : List Nat} {s s' : St}, takeD ds s = some s' → ∃ T Wr, Seg s s' T Wr ∧ s'.nx = s.nx ∧ ∀ (m : Tl) (H : Hp) (W : World) (xs : List Deferred) (fn : Func) (tmps : Array Value) (R : Ending → World → Prop), Good w0 P P.globals.size m H W → Agree H s T → DS m ds xs →
    (∀ W', Stp w0 P P.globals.size s s' Wr m m H W W' → ∃ v, (results fn tmps).run P W' = .ok v W' ∧ R (.returned v) W') → LeavesInM Fence.wide 0 P fn tmps R xs .returning W
  | [], s, s', h => by
    cases h
    refine ⟨[], [], Seg.refl s, rfl, fun m H W xs fn tmps R hg ha hds hR => ?_⟩
    cases xs with
    | nil => exact hR W (Stp.refl hg)
    | cons x xs => exact hds.elim
  | d :: ds, s, s', h => by
    obtain ⟨⟨o, s1⟩, hlk, h_⟩ := ob_some h; clear h; have h := h_; clear h_
    cases o <;> try (cases h; done)
    obtain ⟨s2, hput, h_⟩ := ob_some h; clear h; have h := h_; clear h_
    obtain ⟨hlt, _, hseg, _, hnx⟩ := look_spec hlk
    obtain ⟨_, hseg2, hnx2, _⟩ := putO_spec hput
    obtain ⟨T3, W3, hseg3, hnx3, hrest⟩ := takeD_spec (ds := ds) (s := s2) (s' := s') h
    have g12 := hseg.trans hseg2
    refine ⟨T3 ++ ([d] ++ [d]), W3 ++ ([d] ++ []), g12.trans hseg3, by omega, fun m H W xs fn tmps R hg ha hds hR => ?_⟩
    cases xs with
    | nil => exact hds.elim
    | cons x xs =>
      obtain ⟨⟨b, hb, rfl⟩, hds⟩ := hds
      obtain ⟨b', obj, hb', hob, hor, hne, _⟩ := look_obj hlk rfl (T := T3 ++ ([d] ++ [d])) ha (by simp) hg
      rw [hb] at hb'; cases hb'
      cases hor
      obtain ⟨hblt, _⟩ := Array.getElem?_eq_some_iff.1 hob
      have htake : (Instr.takeDeferred b).run P W = .ok [] (W.putObj b (.deferred none)) := run_takeDeferred hob
      have hst : Stp w0 P P.globals.size s s2 ([d] ++ []) m m H W (W.putObj b (.deferred none)) := by
        have := Stp.put (w0 := w0) (P := P) (G := P.globals.size) (s := s1) hput hg (by rw [hne]; rfl) hb (W' := W.putObj b (.deferred none)) (fun k hk => World.putObj_heap_other hk) (fun x hx => by cases hx)
        simpa using Stp.after hseg hnx hseg2 hg this
      refine ⟨by simp, .inl ⟨b, _, rfl, htake, ?_⟩⟩
      refine hrest m _ _ xs fn tmps R hst.good (ha.left g12) hds (fun W' hst' => hR W' (Stp.trans g12 hseg3 hst hst'))
def resF (tmps : Array Value) : ResultVar → Sem Value
  | .tmp t => pure (tmps.getD t undef)
  | .cell a t => do loadVar t (← asAddr (tmps.getD a undef))
theorem results_eq (fn : Func) (tmps : Array Value) : results fn tmps = (do let vs ← fn.results.mapM (resF tmps); pure (if h : vs.size = 1 then vs[0] else .tuple vs)) := by
  unfold results
  congr 1
/-- What a function hands back. -/
theorem resA_spec {rs : List ResultVar} : ∀ {l : List (Pt × Option (Option Nat))} {vs : List AV} {s' : St}, cRes P rs = some l → resA a s l = some (vs, s') → ∃ T, Seg s s' T [] ∧ s'.nx = s.nx ∧ ∀ (m : Tl) (H : Hp) (W : World) (N : Nat) (tmps : Array Value), Good w0 P P.globals.size m H W → Agree H s T → AT N m a tmps →
    ∃ us, (rs.mapM (resF tmps)).run P W = .ok us W ∧ LR m vs us := by
  induction rs with
  | nil =>
    intro l vs s' hc h
    cases hc
    cases h
    exact ⟨[], Seg.refl s, rfl, fun m H W N tmps hg ha hat => ⟨[], rfl, LR.nil m⟩⟩
  | cons r rs ih =>
    intro l vs s' hc h
    cases r with
    | tmp t =>
      obtain ⟨l', hl', rfl⟩ := map_inv (show (cRes P rs).map (fun l => (ptc t, none) :: l) = some l from hc)
      obtain ⟨v, hv, h_⟩ := ob_some h; clear h; have h := h_; clear h_
      obtain ⟨⟨vs', s1⟩, hrest, h_⟩ := ob_some h; clear h; have h := h_; clear h_
      cases h
      obtain ⟨T, hseg, hnx, hrun⟩ := ih hl' hrest
      refine ⟨T, hseg, hnx, fun m H W N tmps hg ha hat => ?_⟩
      obtain ⟨us, hus, hl⟩ := hrun m H W N tmps hg ha hat
      dsimp only at hv
      rw [ptc_eq] at hv
      obtain ⟨u, hu, hvu⟩ := hat.2 t v hv
      refine ⟨u :: us, ?_, LR.cons hvu hl⟩
      rw [List.mapM_cons]
      have : tmps.getD t undef = u := by simp [Array.getD_eq_getD_getElem?, hu]
      simp only [resF, Sem.run_bind, this, Sem.run_pure, Result.andThen_ok, hus]
    | cell at_ t =>
      have hc' : (match aggT P t, cRes P rs with | some n, some l => some ((ptc at_, some n) :: l) | _, _ => none) = some l := hc
      split at hc'
      · rename_i n l' hn hl'
        cases hc'
        obtain ⟨v, hv, h_⟩ := ob_some h; clear h; have h := h_; clear h_
        dsimp only at h
        split at h
        · rename_i b off
          obtain ⟨⟨vs', s1⟩, hrest, h_⟩ := ob_some h; clear h; have h := h_; clear h_
          obtain ⟨⟨cs, s2⟩, hcells, h_⟩ := ob_some h; clear h; have h := h_; clear h_
          obtain ⟨u, hu, h_⟩ := ob_some h; clear h; have h := h_; clear h_
          cases h
          obtain ⟨T, hseg, hnx, hrun⟩ := ih hl' hrest
          obtain ⟨ob0, hlk0, _⟩ := cellsRd_look hcells
          obtain ⟨hlt, _, hseg2, _, hnx2⟩ := look_spec hlk0
          refine ⟨[b] ++ T, by simpa using hseg.trans hseg2, (by have q1 : s2.nx = s1.nx := hnx2; have q2 : s1.nx = s.nx := hnx; show s2.nx = s.nx; omega), fun m H W N tmps hg ha hat => ?_⟩
          obtain ⟨us, hus, hl⟩ := hrun m H W N tmps hg ha.right hat
          have ha1 : Agree H s1 [b] := Agree.after hseg hnx ha
          obtain ⟨b', c, el, fr, hb, hh, hlen, hlc⟩ := rd_obj hcells ha1 (by simp) hg
          dsimp only at hv
          rw [ptc_eq] at hv
          obtain ⟨w, hw, hvw⟩ := hat.2 at_ _ hv
          cases hvw
          rename_i b2 hb2
          rw [hb] at hb2; cases hb2
          have hload : ∃ x, (loadVar t ⟨b', off, none⟩).run P W = .ok x W ∧ VR m u x := by
            obtain ⟨r1, r2⟩ := run_agg hn W
            cases n with
            | none =>
              obtain ⟨x, hx, hx'⟩ := hlc.get (i := off) (a := u) hu
              have hx2 : c[off]? = some x := by
                rw [List.getElem?_take] at hx
                split at hx
                · rw [← Array.getElem?_toList]; exact hx
                · cases hx
              exact ⟨x, by simp [loadVar, r1, cell_of hh, hx2], hx'⟩
            | some k =>
              obtain ⟨q, hq, hu⟩ := ob_some hu
              cases hu
              obtain ⟨hle, rfl⟩ := sub_some hq
              have hs := hlc.sub rfl hle
              dsimp only at hle
              exact ⟨.agg ⟨(c.toList.drop off).take k⟩, by simp [loadVar, r1, run_sz (r2 k rfl), run_loadCells_rk hh (show off + k ≤ c.size by omega)], .agg hs.1 hs.2⟩
          obtain ⟨x, hx, hvx⟩ := hload
          refine ⟨x :: us, ?_, LR.cons hvx hl⟩
          rw [List.mapM_cons]
          have : tmps.getD at_ undef = .pointer (some ⟨b', off, none⟩) := by simp [Array.getD_eq_getD_getElem?, hw]
          simp only [resF, Sem.run_bind, this, asAddr, Sem.run_pure, Result.andThen_ok, hx, hus]
        · cases h
      · cases hc'
theorem tup_spec {vs : List AV} {us : List Value} (h : LR m vs us) : VR m (tupA vs) (if h : us.toArray.size = 1 then us.toArray[0] else .tuple us.toArray) := by
  cases vs with
  | nil =>
    have := h.inv_nil
    subst this
    exact .tup rfl (fun i a v ha _ => by simp at ha)
  | cons v vs =>
    obtain ⟨u, us', rfl, h1, h2⟩ := h.inv_cons
    cases vs with
    | nil =>
      have := h2.inv_nil
      subst this
      simpa [tupA] using h1
    | cons v2 vs =>
      obtain ⟨u2, us2, rfl, h3, h4⟩ := h2.inv_cons
      have : ¬ (u :: u2 :: us2).toArray.size = 1 := by simp
      rw [dif_neg this]
      exact .tup h.1 h.2
theorem cFn_inv {f : Nat} {e : EFn} (h : cFn P f = some e) : ∃ fn c, P.funcs[f]? = some fn ∧ fn.body = some c ∧ (fn.name == "runtime.NumGoroutine") = false ∧ cRes P fn.results.toList = some e.res ∧ e.N = fn.ntmps ∧ e.code = cCode P fn.ntmps c := by
  unfold cFn at h
  split at h
  · rename_i fn hfn
    split at h
    · rename_i c r hb hr
      split at h
      · cases h
      · rename_i hnm
        cases h
        exact ⟨fn, c, hfn, hb, by simpa using hnm, hr, rfl, rfl⟩
    · cases h
  · cases h
/-- Functions whose contracts are known: what they come to, and what they do to the memory. -/
def OrcOk (w0 : World) (P : Program) (O : OrcT) : Prop := ClOk w0 P O
/-- .. what they come to, whatever lies about. -/
def OrcOk0 (w0 : World) (P : Program) (O : Nat → List AV → Option AV) : Prop := ∀ f args v, O f args = some v → (∃ fn, P.funcs[f]? = some fn ∧ fn.body.isNone = false ∧ (fn.name == "runtime.NumGoroutine") = false) ∧
  ∀ (m : Tl) (W : World) (vals : List Value), (∀ (k : Nat) (ob : Obj), w0.heap[k]? = some ob → W.heap[k]? = some ob) → LR m args vals → Calls P f ⟨vals⟩ W fun e W' => ∃ v', e = .returned v' ∧ VR m v v' ∧ Below W.heap.size W W'
noncomputable def liftO (O : Nat → List AV → Option AV) : OrcT := fun f args s => ob (O f args) fun v => some (v, s)
/-- The one, or the other. -/
noncomputable def orO (O1 O2 : OrcT) : OrcT := fun f args s => Option.rec (O2 f args s) (fun r => some r) (O1 f args s)
theorem Stp.below {s : St} {m : Tl} {H : Hp} {W W' : World} (hg : Good w0 P P.globals.size m H W) (hb : Below W.heap.size W W') : Stp w0 P P.globals.size s s [] m m H W W' := by
  have hk : ∀ (k : Nat) (ob : Obj), W.heap[k]? = some ob → W'.heap[k]? = some ob := fun k ob h => by
    rw [hb.block k (Array.getElem?_eq_some_iff.1 h).1]; exact h
  have hu : updH H s s [] = H := by
    funext n
    unfold updH
    rw [if_neg]
    rintro (h | h)
    · cases h
    · omega
  refine ⟨MExt.refl m, fun _ _ => rfl, fun n b h1 h2 _ => by omega, ?_, fun b ob h _ => hk b ob h, ⟨hb.os, hb.tape, hb.output⟩⟩
  rw [hu]
  exact ⟨fun n o hn hr => by
    obtain ⟨b, ob, h1, h2, h3⟩ := hg.obj n o hn hr
    exact ⟨b, ob, h1, hk b ob h2, h3⟩, hg.ro, hg.inj, hg.glob, fun k ob h => hk k ob (hg.old k ob h)⟩
theorem liftO_ok {O : Nat → List AV → Option AV} (hO : OrcOk0 w0 P O) : OrcOk w0 P (liftO O) := by
  intro f args s v s' h
  obtain ⟨v0, hv0, h⟩ := ob_some h
  cases h
  obtain ⟨hc, hcall⟩ := hO f args v hv0
  refine ⟨hc, [], [], Seg.refl s, fun m H W vals R hg ha hf hl hR => ?_⟩
  refine (callsIn_wide.2 (hcall m W vals hg.old hl)).mono fun e W' ⟨v', he, hv, hb⟩ => ?_
  subst he
  exact hR m v' W' (Stp.below hg hb) hv
theorem orO_ok {O1 O2 : OrcT} (h1 : OrcOk w0 P O1) (h2 : OrcOk w0 P O2) : OrcOk w0 P (orO O1 O2) := by
  intro f args s v s' h
  unfold orO at h
  cases hr : O1 f args s with
  | none => rw [hr] at h; exact h2 f args s v s' h
  | some r => rw [hr] at h; cases h; exact h1 f args s v s' hr
theorem clE_ok {O : OrcT} {ih : Nat → Nat → Bool → ECode → Tri AV → List Nat → St → Rz} (hih : CodeOk w0 P ih) (hft : FTok P ft) (hO : OrcOk w0 P O) : ClOk w0 P (clE O ft ih) := by
  intro f args s v s' h
  unfold clE at h
  split at h
  case h_2 => exact hO f args s v s' h
  rename_i e0 he0
  obtain ⟨e, he, h⟩ := ob_some h
  rw [he0] at he
  cases he
  obtain ⟨fn, c, hfn, hb, hnm, hres, hN, hcode⟩ := cFn_inv (hft f e0 he0)
  refine ⟨⟨fn, hfn, by rw [hb]; rfl, hnm⟩, ?_⟩
  rw [hcode, hN] at h
  have key : ∀ {o : Out} {a1 : Tri AV} {ds : List Nat} {s1 : St}, (o = .norm ∨ o = .ret) → ih f fn.ntmps false (cCode P fn.ntmps c) (argT args 0 .leaf) [] s = .ok o a1 ds s1 → (ob (takeD ds s1) fun s => ob (resA a1 s e0.res) fun r => some (tupA r.1, r.2)) = some (v, s') →
      ∃ T Wr, Seg s s' T Wr ∧ ∀ (m : Tl) (H : Hp) (W : World) (vals : List Value) (R : Ending → World → Prop), Good w0 P P.globals.size m H W → Agree H s T → Fresh m s s' → LR m args vals →
        (∀ m' v' W', Stp w0 P P.globals.size s s' Wr m m' H W W' → VR m' v v' → R (.returned v') W') → CallsIn Fence.wide 0 P f ⟨vals⟩ W R := by
    intro o a1 ds s1 ho hev h
    obtain ⟨T1, W1, g1, hrun⟩ := hih _ _ _ _ _ _ _ _ _ _ _ hev
    obtain ⟨s2, htake, h_⟩ := ob_some h; clear h; have h := h_; clear h_
    obtain ⟨⟨vs, s3⟩, hresA, h_⟩ := ob_some h; clear h; have h := h_; clear h_
    cases h
    obtain ⟨T2, W2, g2, hn2, hleave⟩ := takeD_spec (w0 := w0) (P := P) htake
    obtain ⟨T3, g3, hn3, hresrun⟩ := resA_spec (w0 := w0) hres hresA
    refine ⟨T3 ++ (T2 ++ T1), [] ++ (W2 ++ W1), (g1.trans g2).trans g3, fun m H W vals R hg ha hf hl hR => ?_⟩
    have g12 := g1.trans g2
    have ha12 : Agree H s (T2 ++ T1) := ha.right
    refine callsIn_of_wp_marks hfn hb trivial ?_
    refine hrun none m H W _ _ (fun _ => rfl) hg ha12.right (Fresh.right g2 (Fresh.right g3 hf)) (AT.args hl) trivial (fun m1 act1 Wa hst1 hat1 hds1 => ?_)
    have hfin : LeavesInM Fence.wide 0 P fn act1.tmps R act1.defers .returning Wa := by
      refine hleave m1 _ Wa _ fn _ R hst1.good (ha12.left g1) hds1 (fun Wb hst2 => ?_)
      have hst12 := Stp.trans g1 g2 hst1 hst2
      have ha3 : Agree (updH H s s2 (W2 ++ W1)) s2 T3 := ha.left g12
      obtain ⟨us, hus, hlu⟩ := hresrun m1 _ Wb _ _ hst12.good ha3 hat1
      refine ⟨_, ?_, hR m1 _ Wb (by simpa using Stp.trans g12 g3 hst12 (Stp.looked g3 hn3 hst12.good)) (tup_spec hlu)⟩
      rw [results_eq, Array.mapM_eq_mapM_toList]
      simp only [Sem.run_bind, Sem.run_map, hus, Result.andThen_ok, Sem.run_pure]
    rcases ho with rfl | rfl <;> exact hfin
  split at h
  · rename_i hev; exact key (.inl rfl) hev h
  · rename_i hev; exact key (.inr rfl) hev h
  · cases h
end
end Go.Proofs.Ytonckpblbdopmaa.Rk
