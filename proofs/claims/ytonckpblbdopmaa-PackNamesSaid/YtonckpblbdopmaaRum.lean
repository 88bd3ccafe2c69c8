/-
  Reckoning a program in the kernel: a round of a range over a function. Nothing of the program.
-/
import Derived.Test.YtonckpblbdopmaaRun
namespace Go.Proofs.Ytonckpblbdopmaa.Rk
set_option linter.unusedVariables false
open Go
set_option maxHeartbeats 2000000
set_option linter.unusedSimpArgs false

section
variable {w0 : World} {P : Program} {a a' : Tri AV} {s s' : St} {m : Tl} {H : Hp} {W : World}
theorem parT_spec {N : Nat} : ∀ (params : List Nat) (args : List AV) (vals : List Value) (a0 a : Tri AV) (tmps : Array Value), parT (params.map ptc) args a0 = some a → AT N m a0 tmps → (∀ p ∈ params, p < N) → LR m args vals →
    vals.length = params.length ∧ AT N m a ((params.zip vals).foldl (fun tmps (x : Nat × Value) => tmps.setIfInBounds x.1 x.2) tmps)
  | [], args, vals, a0, a, tmps, h, hat, hp, hl => by
    cases args with
    | nil => cases h; have := hl.inv_nil; subst this; exact ⟨rfl, hat⟩
    | cons v args => cases h
  | p :: ps, args, vals, a0, a, tmps, h, hat, hp, hl => by
    cases args with
    | nil => cases h
    | cons v args =>
      obtain ⟨u, us, rfl, h1, h2⟩ := hl.inv_cons
      have h' : parT (ps.map ptc) args (a0.set (some v) (ptc p)) = some a := h
      have hat1 : AT N m (a0.set (some v) (ptc p)) (tmps.setIfInBounds p u) := by
        have hpN := hp p (by simp)
        refine ⟨by simp; exact hat.1, fun t x hx => ?_⟩
        rw [ptc_eq] at hx
        by_cases ht : p = t
        · subst ht
          rw [Tri.set_same] at hx
          cases hx
          exact ⟨u, by simp [Array.getElem?_setIfInBounds, Nat.lt_of_lt_of_le hpN hat.1], h1⟩
        · rw [Tri.set_other _ _ _ _ (fun e => ht (pt_inj e))] at hx
          obtain ⟨w, hw, hvw⟩ := hat.2 t x hx
          exact ⟨w, by simp [Array.getElem?_setIfInBounds, ht, hw], hvw⟩
      obtain ⟨q1, q2⟩ := parT_spec ps args us _ a _ h' hat1 (fun q hq => hp q (List.mem_cons_of_mem _ hq)) h2
      exact ⟨by simp [q1], by simpa using q2⟩
theorem loop_obj {l : Nat} {st : LoopState} {pe : Option Out} {f N : Nat} {a0 : Tri AV} {ps : List Pt} {as bo : ECode} {d G : Nat} {T : List Nat} (h : loopAt l s = some (st, pe, f, N, a0, ps, as, bo, d, s')) (ha : Agree H s T) (hT : l ∈ T) (hg : Good w0 P G m H W) :
    ∃ b r, m l = some b ∧ W.heap[b]? = some (.loop r) ∧ OR P m (.loop st pe f N a0 ps as bo d) (.loop r) ∧ live (H l) = true := by
  obtain ⟨b, ob, h1, h2, h3, h4, _⟩ := look_obj (loopAt_look h) rfl ha hT hg
  cases h3 with
  | @loop _ _ _ _ _ _ _ _ _ r q1 q2 q4 q5 q6 q7 q8 q9 q10 => exact ⟨b, r, h1, h2, .loop q1 q2 q4 q5 q6 q7 q8 q9 q10, by rw [h4]; rfl⟩
theorem OR.loop_inv {st : LoopState} {pe : Option Out} {f N : Nat} {a0 : Tri AV} {ps : List Pt} {as bo : ECode} {d : Nat} {l : Loop} (h : OR P m (.loop st pe f N a0 ps as bo d) (.loop l)) :
    l.state = st ∧ l.pending = pe.map outC ∧ AT N m a0 l.tmps ∧ l.params.toList.map ptc = ps ∧ cCode P N l.assign = as ∧ cCode P N l.body = bo ∧ m d = some l.defers ∧ (∀ p ∈ l.params.toList, p < N) ∧ pe ≠ some .norm := by
  cases h with
  | loop h1 h2 h4 h5 h6 h7 h8 h9 h10 => exact ⟨h1, h2, h4, h5, h6, h7, h8, h9, h10⟩
/-- The record is turned. -/
theorem Stp.record {l b : Nat} {o : AObj} {r : Loop} (h : putO l (some o) s = some s') {G : Nat} (hg : Good w0 P G m H W) (hH : live (H l) = true) (hb : m l = some b) (hw : ∃ x, W.heap[b]? = some x) (ho : OR P m o (.loop r)) : Stp w0 P G s s' [l] m m H W (W.putObj b (.loop r)) := by
  obtain ⟨x, hx⟩ := hw
  obtain ⟨hlt, _⟩ := Array.getElem?_eq_some_iff.1 hx
  exact Stp.put h hg hH hb (W' := W.putObj b (.loop r)) (fun k hk => World.putObj_heap_other hk) (fun y hy => by
    cases hy
    exact ⟨.loop r, by simp [World.putObj, hlt], ho, fun c el fr q => by cases q⟩) ⟨rfl, rfl, rfl⟩ (fun y hy => by cases hy; cases ho; rfl)
theorem DS.nil_iff {m : Tl} {xs : List Deferred} (h : DS m [] xs) : xs = [] := by
  cases xs with
  | nil => rfl
  | cons x xs => exact h.elim
theorem CodeG.at_seg {N : Nat} {rd : Bool} {c : Code} {e : Out} {ds ds' : List Nat} {T Wr : List Nat} (h : CodeG w0 P N rd c e a a' ds ds' s s') (g : Seg s s' T Wr) :
    ∀ (ro : Option Nat) (m : Tl) (H : Hp) (W : World) (act : Act) (Q : Exit → Act → World → Prop), (rd = false → ro = none) → Good w0 P P.globals.size m H W → Agree H s T → Fresh m s s' → AT N m a act.tmps → DS m ds act.defers →
      (∀ m' act' W', Stp w0 P P.globals.size s s' Wr m m' H W W' → AT N m' a' act'.tmps → DS m' ds' act'.defers → Q (outE e) act' W') → c.wpIn (wf ro) 0 P Q act W := by
  obtain ⟨T', Wr', g', hrun⟩ := h
  have e1 : T' = T := List.append_cancel_right (g'.lg.symm.trans g.lg)
  have e2 : Wr' = Wr := List.append_cancel_right (g'.wl.symm.trans g.wl)
  subst e1; subst e2
  exact hrun
theorem yl_ok {ih : Nat → Nat → Bool → ECode → Tri AV → List Nat → St → Rz} (hih : CodeOk w0 P ih) (hsx : SxCode ih) : YlOk w0 P (fun l args s => evYield ih l args s) := by
  intro l args s v s' h
  obtain ⟨⟨st, pe, f, N, a0, ps, as, bo, d, s1⟩, hl1, h_⟩ := ob_some h; clear h; have h := h_; clear h_
  split at h
  case h_2 => cases h
  rename_i pe f N a0 ps as bo d s1 heq
  cases heq
  obtain ⟨a, hpar, h_⟩ := ob_some h; clear h; have h := h_; clear h_
  split at h
  case h_2 => cases h
  rename_i a1 s2 hev1
  obtain ⟨⟨st3, pe3, f3, N3, a3, ps3, as3, bo3, d3, s3⟩, hl2, h_⟩ := ob_some h; clear h; have h := h_; clear h_
  split at h
  case h_2 => cases h
  rename_i pe3 f3 N3 a3 ps3 as3 bo3 d3 s3 heq
  cases heq
  obtain ⟨s4, hput4, h_⟩ := ob_some h; clear h; have h := h_; clear h_
  split at h
  case h_2 => cases h
  rename_i e a5 s5 hev2
  obtain ⟨⟨st6, pe6, f6, N6, a6, ps6, as6, bo6, d6, s6⟩, hl3, h_⟩ := ob_some h; clear h; have h := h_; clear h_
  dsimp only at h
  have hend : ∃ (st7 : LoopState) (pe7 : Option Out) (jump : Option Code), putO l (some (.loop st7 pe7 f6 N6 a6 ps6 as6 bo6 d6)) s6 = some s' ∧ v = .bool jump.isNone ∧ st7 = (if jump.isNone then .ready else .done) ∧ jump = pe7.map outC ∧ pe7 ≠ some .norm ∧
      (∀ (b : Nat) (R : Ending → World → Prop) (act : Act) (W : World), (∃ v w', (Instr.endRound b jump).run P W = .ok v w' ∧ R (.returned v) w') → roundPost P b R (outE e) act W) := by
    cases e with
    | norm =>
      obtain ⟨s7, hput, h_⟩ := ob_some h; clear h; have h := h_; clear h_
      cases h
      exact ⟨_, _, none, hput, rfl, rfl, rfl, by simp, fun b R act W hh => hh⟩
    | ret =>
      obtain ⟨s7, hput, h_⟩ := ob_some h; clear h; have h := h_; clear h_
      cases h
      exact ⟨_, _, some .ret, hput, rfl, rfl, rfl, by simp, fun b R act W hh => hh⟩
    | exit id =>
      obtain ⟨s7, hput, h_⟩ := ob_some h; clear h; have h := h_; clear h_
      cases h
      exact ⟨_, _, some (.exit id), hput, rfl, rfl, rfl, by simp, fun b R act W hh => hh⟩
  clear h
  obtain ⟨st7, pe7, jump, hput7, rfl, hst7, hjump, hpe7, hpost⟩ := hend
  obtain ⟨hlt1, _, g1, _, hn1⟩ := look_spec (loopAt_look hl1)
  obtain ⟨hlt3, _, g3, _, hn3⟩ := look_spec (loopAt_look hl2)
  obtain ⟨_, g4, hn4, _⟩ := putO_spec hput4
  obtain ⟨hlt6, _, g6, _, hn6⟩ := look_spec (loopAt_look hl3)
  obtain ⟨_, g7, hn7, _⟩ := putO_spec hput7
  obtain ⟨T2, W2, g2⟩ := hsx _ _ _ _ _ _ _ _ _ _ _ hev1
  obtain ⟨T5, W5, g5⟩ := hsx _ _ _ _ _ _ _ _ _ _ _ hev2
  have g12 := g1.trans g2
  have g34 := g3.trans g4
  have g1234 := g12.trans g34
  have g15 := g1234.trans g5
  have g67 := g6.trans g7
  refine ⟨_, _, g15.trans g67, fun m H W vals b R hg ha hf hl hb hR => ?_⟩
  have ha15 := ha.right
  have ha14 := ha15.right
  have ha12 := ha14.right
  have hf15 := Fresh.right g67 hf
  have hf14 := Fresh.right g5 hf15
  have hf12 := Fresh.right g34 hf14
  obtain ⟨b1, r1, hb1, hw1, hor1, _⟩ := loop_obj hl1 ha12.right (by simp) hg
  rw [hb] at hb1; cases hb1
  obtain ⟨q1, q2, q4, q5, q6, q7, q8, q9, q10⟩ := hor1.loop_inv
  -- yield asks for a round
  rw [← q5] at hpar
  obtain ⟨hlen, hat⟩ := parT_spec r1.params.toList args vals a0 a r1.tmps hpar q4 q9 hl
  have hy : (Instr.yield b ⟨vals⟩).run P W = .ok (.round b r1.fn ((r1.params.toList.zip vals).foldl (fun tmps (x : Nat × Value) => tmps.setIfInBounds x.1 x.2) r1.tmps) r1.assign r1.body) W := by
    rw [run_yield hw1 (by simpa using hlen)]
    congr 2
    rw [← Array.foldl_toList, Array.toList_zip]
  refine ⟨_, _, _, _, hy, ?_⟩
  refine roundIn_of_wpIn trivial ?_
  rw [← q6] at hev1
  rw [← q7] at hev2
  have hst1 : Stp w0 P P.globals.size s s1 [] m m H W W := Stp.looked g1 hn1 hg
  refine (hih _ _ _ _ _ _ _ _ _ _ _ hev1).at_seg g2 (some b) m _ W _ _ (fun h => by cases h) hst1.good (ha12.left g1) (Fresh.left g1 hst1 hf12) hat trivial (fun m2 act2 Wa hst2 hat2 hds2 => ?_)
  have hst12 := Stp.trans g1 g2 hst1 hst2
  have ha34 := ha14.left g12
  have hb2 : m2 l = some b := (hst12.ext _ _ hb).1
  obtain ⟨b3, r3, hb3, hw3, hor3, hne3⟩ := loop_obj hl2 (T := [l]) (ha34.right) (by simp) hst12.good
  rw [hb2] at hb3; cases hb3
  obtain ⟨u1, u2, u4, u5, u6, u7, u8, u9, u10⟩ := hor3.loop_inv
  refine ⟨Wa.putObj b (.loop { r3 with state := .busy }), run_beginRound hw3 u1, ?_⟩
  have hst34 : Stp w0 P P.globals.size s2 s4 ([l] ++ []) m2 m2 (updH H s s2 (W2 ++ [])) Wa (Wa.putObj b (.loop { r3 with state := .busy })) := by
    have := Stp.record (r := { r3 with state := .busy }) hput4 hst12.good hne3 hb2 ⟨_, hw3⟩ (.loop rfl u2 u4 u5 u6 u7 u8 u9 u10)
    simpa using Stp.after g3 hn3 g4 hst12.good this
  have hst14 := Stp.trans g12 g34 hst12 hst34
  refine (hih _ _ _ _ _ _ _ _ _ _ _ hev2).at_seg g5 (some b) m2 _ _ _ _ (fun h => by cases h) hst14.good (ha15.left g1234) (Fresh.left g1234 hst14 hf15) hat2 hds2 (fun m5 act5 Wb hst5 hat5 hds5 => ?_)
  have hst15 := Stp.trans g1234 g5 hst14 hst5
  have hb5 : m5 l = some b := (hst15.ext _ _ hb).1
  have ha67 := ha.left g15
  obtain ⟨b6, r6, hb6, hw6, hor6, hne6⟩ := loop_obj hl3 (T := [l]) ha67.right (by simp) hst15.good
  rw [hb5] at hb6; cases hb6
  obtain ⟨x1, x2, x4, x5, x6, x7, x8, x9, x10⟩ := hor6.loop_inv
  refine hpost b R act5 Wb ⟨_, _, run_endRound jump hw6, ?_⟩
  have hst67 : Stp w0 P P.globals.size s5 s' ([l] ++ []) m5 m5 (updH H s s5 (W5 ++ (([l] ++ []) ++ (W2 ++ [])))) Wb (Wb.putObj b (.loop { r6 with state := if jump.isNone then .ready else .done, pending := jump })) := by
    have := Stp.record (r := { r6 with state := if jump.isNone then .ready else .done, pending := jump }) hput7 hst15.good hne6 hb5 ⟨_, hw6⟩ (.loop hst7.symm hjump x4 x5 x6 x7 x8 x9 hpe7)
    simpa using Stp.after g6 hn6 g7 hst15.good this
  exact hR m5 _ _ (Stp.trans g15 g67 hst15 hst67) (.bool _)
end
end Go.Proofs.Ytonckpblbdopmaa.Rk
