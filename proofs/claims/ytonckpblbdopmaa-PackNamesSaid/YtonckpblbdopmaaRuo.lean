/-
  Reckoning a program in the kernel: what is reckoned holds in the model. Nothing of the program.
-/
import Derived.Test.YtonckpblbdopmaaRum
namespace Go.Proofs.Ytonckpblbdopmaa.Rk
set_option linter.unusedVariables false
open Go
set_option maxHeartbeats 2000000
set_option linter.unusedSimpArgs false

section
variable {w0 : World} {P : Program} {ft : Tri EFn} {a a' : Tri AV} {s s' : St} {m : Tl} {H : Hp} {W : World}
/-- A loop comes out by the rounds that are reckoned. -/
def LoopG (w0 : World) (P : Program) (N : Nat) (rd : Bool) (c : Code) (e : Out) (a a' : Tri AV) (ds ds' : List Nat) (s s' : St) : Prop :=
  ∃ k T Wr, Seg s s' T Wr ∧ ∀ (ro : Option Nat) (m : Tl) (H : Hp) (W : World) (act : Act) (Q : Exit → Act → World → Prop), (rd = false → ro = none) → Good w0 P P.globals.size m H W → Agree H s T → Fresh m s s' → AT N m a act.tmps → DS m ds act.defers →
    (∀ m' act' W', Stp w0 P P.globals.size s s' Wr m m' H W W' → AT N m' a' act'.tmps → DS m' ds' act'.defers → Q (outE e) act' W') → LoopsOut P ro c Q k act W
def LoopOk (w0 : World) (P : Program) (ih : Nat → Nat → Bool → ECode → Tri AV → List Nat → St → Rz) : Prop :=
  ∀ fid N rd c a ds s e a' ds' s', ih fid N rd (.loop (cCode P N c)) a ds s = .ok e a' ds' s' → e ≠ .norm ∧ LoopG w0 P N rd c e a a' ds ds' s s'
theorem then_out {next : Act → World → Prop} {Q : Exit → Act → World → Prop} {e : Out} (he : e ≠ .norm) {act : Act} {w : World} (h : Q (outE e) act w) : Exit.then next Q (outE e) act w := by
  cases e with
  | norm => exact absurd rfl he
  | exit id => exact h
  | ret => exact h
theorem code_ok {O : OrcT} (hft : FTok P ft) (hO : OrcOk w0 P O) : ∀ n, CodeOk w0 P (ev O ft n) ∧ LoopOk w0 P (ev O ft n) := by
  intro n
  induction n with
  | zero => exact ⟨(fun fid N rd c a ds s e a' ds' s' h => by cases h), (fun fid N rd c a ds s e a' ds' s' h => by cases h)⟩
  | succ n ih =>
    obtain ⟨ihc, ihl⟩ := ih
    have hsx := ev_sx O (fun f args s v s' h => let ⟨_, T, Wr, g, _⟩ := hO f args s v s' h; ⟨T, Wr, g⟩) ft n
    have hcl := clE_ok ihc hft hO
    have hyl := yl_ok ihc hsx
    have hloop : LoopOk w0 P (ev O ft (n + 1)) := by
      intro fid N rd c a ds s e a' ds' s' h
      have h' : (match ev O ft n fid N rd (cCode P N c) a ds s with | .ok .norm a ds s => ev O ft n fid N rd (.loop (cCode P N c)) a ds s | r => r) = .ok e a' ds' s' := h
      split at h'
      · rename_i a1 ds1 s1 h1
        obtain ⟨T1, W1, g1, hr1⟩ := ihc _ _ _ _ _ _ _ _ _ _ _ h1
        obtain ⟨hne, k, T2, W2, g2, hr2⟩ := ihl _ _ _ _ _ _ _ _ _ _ _ h'
        refine ⟨hne, k + 1, T2 ++ T1, W2 ++ W1, g1.trans g2, fun ro m H W act Q hro hg ha hf hat hds hQ => ?_⟩
        refine hr1 ro m H W act _ hro hg ha.right (hf.right g2) hat hds (fun m1 act1 Wa hst1 hat1 hds1 => ?_)
        exact hr2 ro m1 _ Wa act1 Q hro hst1.good (ha.left g1) (hf.left g1 hst1) hat1 hds1 (fun m2 act2 Wb hst2 hat2 hds2 => hQ m2 act2 Wb (Stp.trans g1 g2 hst1 hst2) hat2 hds2)
      · rename_i hno
        have hne : e ≠ .norm := fun he => by subst he; exact hno _ _ _ h'
        obtain ⟨T1, W1, g1, hr1⟩ := ihc _ _ _ _ _ _ _ _ _ _ _ h'
        exact ⟨hne, 1, T1, W1, g1, fun ro m H W act Q hro hg ha hf hat hds hQ => hr1 ro m H W act _ hro hg ha hf hat hds (fun m1 act1 Wa hst1 hat1 hds1 => then_out hne (hQ m1 act1 Wa hst1 hat1 hds1))⟩
    refine ⟨?_, hloop⟩
    intro fid N rd c
    induction c with
    | skip => intro a ds s e a' ds' s' h; cases h; exact .refl fun ro act W Q hQ => wpIn_skip hQ
    | label l => intro a ds s e a' ds' s' h; cases h; exact .refl fun ro act W Q hQ => wpIn_label hQ
    | exit id => intro a ds s e a' ds' s' h; cases h; exact .refl fun ro act W Q hQ => wpIn_exit hQ
    | ret => intro a ds s e a' ds' s' h; cases h; exact .refl fun ro act W Q hQ => wpIn_ret hQ
    | goto l => intro a ds s e a' ds' s' h; cases h
    | refuse w => intro a ds s e a' ds' s' h; cases h
    | scope c ihs =>
      intro a ds s e a' ds' s' h
      obtain ⟨T, Wr, g, hr⟩ := ihs _ _ _ _ _ _ _ h
      exact ⟨T, Wr, g, fun ro m H W act Q hro hg ha hf hat hds hQ => wpIn_scope_straight (hr ro m H W act _ hro hg ha hf hat hds (fun m1 act1 Wa hst1 hat1 hds1 => noGoto_out (hQ m1 act1 Wa hst1 hat1 hds1)))⟩
    | seq x y _ _ =>
      intro a ds s e a' ds' s' h
      have h' : (match ev O ft n fid N rd (cCode P N x) a ds s with | .ok .norm a ds s => ev O ft n fid N rd (cCode P N y) a ds s | r => r) = .ok e a' ds' s' := h
      split at h'
      · rename_i a1 ds1 s1 h1
        obtain ⟨T1, W1, g1, hr1⟩ := ihc _ _ _ _ _ _ _ _ _ _ _ h1
        obtain ⟨T2, W2, g2, hr2⟩ := ihc _ _ _ _ _ _ _ _ _ _ _ h'
        refine ⟨T2 ++ T1, W2 ++ W1, g1.trans g2, fun ro m H W act Q hro hg ha hf hat hds hQ => wpIn_seq ?_⟩
        refine hr1 ro m H W act _ hro hg ha.right (hf.right g2) hat hds (fun m1 act1 Wa hst1 hat1 hds1 => ?_)
        exact hr2 ro m1 _ Wa act1 Q hro hst1.good (ha.left g1) (hf.left g1 hst1) hat1 hds1 (fun m2 act2 Wb hst2 hat2 hds2 => hQ m2 act2 Wb (Stp.trans g1 g2 hst1 hst2) hat2 hds2)
      · rename_i hno
        have hne : e ≠ .norm := fun he => by subst he; exact hno _ _ _ h'
        obtain ⟨T1, W1, g1, hr1⟩ := ihc _ _ _ _ _ _ _ _ _ _ _ h'
        exact ⟨T1, W1, g1, fun ro m H W act Q hro hg ha hf hat hds hQ => wpIn_seq (hr1 ro m H W act _ hro hg ha hf hat hds (fun m1 act1 Wa hst1 hat1 hds1 => then_out hne (hQ m1 act1 Wa hst1 hat1 hds1)))⟩
    | cond x t f _ _ =>
      intro a ds s e a' ds' s' h
      cases hx : cO P x with
      | none =>
        have hbad : cCode P N (.cond x t f) = .bad := by simp only [cCode, hx]
        rw [hbad] at h; cases h
      | some x' =>
        have hco : cCode P N (.cond x t f) = .cond x' (cCode P N t) (cCode P N f) := by simp only [cCode, hx]
        rw [hco] at h
        have h' : (match rdo a x' with | some (.bool b) => Bool.rec (ev O ft n fid N rd (cCode P N f) a ds s) (ev O ft n fid N rd (cCode P N t) a ds s) b | _ => .fail) = Rz.ok e a' ds' s' := h
        split at h'
        · rename_i b hb
          have hev : ev O ft n fid N rd (cCode P N (if b then t else f)) a ds s = .ok e a' ds' s' := by cases b <;> exact h'
          obtain ⟨T1, W1, g1, hr1⟩ := ihc _ _ _ _ _ _ _ _ _ _ _ hev
          refine ⟨T1, W1, g1, fun ro m H W act Q hro hg ha hf hat hds hQ => ?_⟩
          have hv := rdo_spec (xs := [x]) (act := act) hx hb (fun t v ht hv => by
            obtain ⟨u, hu, hvu⟩ := hat.2 t v hv
            have : act.eval (.tmp t) = u := by simp [Act.eval, Array.getD_eq_getD_getElem?, hu]
            rw [this]; exact hvu) (by simp) hg.glob
          generalize hz : act.eval x = z at hv
          cases hv
          exact wpIn_cond hz (hr1 ro m H W act Q hro hg ha hf hat hds hQ)
        · cases h'
    | block id c _ =>
      intro a ds s e a' ds' s' h
      have h' : (match ev O ft n fid N rd (cCode P N c) a ds s with | .ok (.exit j) a ds s => Bool.rec (.ok (.exit j) a ds s) (.ok .norm a ds s) (Nat.beq j id) | r => r) = Rz.ok e a' ds' s' := h
      split at h'
      · rename_i j a1 ds1 s1 h1
        obtain ⟨T1, W1, g1, hr1⟩ := ihc _ _ _ _ _ _ _ _ _ _ _ h1
        rcases rec_two h' with ⟨hj, h2⟩ | ⟨hj, h2⟩ <;> cases h2
        · have hne : ¬ j = id := Nat.ne_of_beq_eq_false hj
          refine ⟨T1, W1, g1, fun ro m H W act Q hro hg ha hf hat hds hQ => wpIn_block (hr1 ro m H W act _ hro hg ha hf hat hds (fun m1 act1 Wa hst1 hat1 hds1 => ?_))⟩
          show (if j = id then _ else _)
          rw [if_neg hne]
          exact hQ m1 act1 Wa hst1 hat1 hds1
        · have he : j = id := Nat.eq_of_beq_eq_true hj
          refine ⟨T1, W1, g1, fun ro m H W act Q hro hg ha hf hat hds hQ => wpIn_block (hr1 ro m H W act _ hro hg ha hf hat hds (fun m1 act1 Wa hst1 hat1 hds1 => ?_))⟩
          show (if j = id then _ else _)
          rw [if_pos he]
          exact hQ m1 act1 Wa hst1 hat1 hds1
      · rename_i hno
        obtain ⟨T1, W1, g1, hr1⟩ := ihc _ _ _ _ _ _ _ _ _ _ _ h'
        refine ⟨T1, W1, g1, fun ro m H W act Q hro hg ha hf hat hds hQ => wpIn_block (hr1 ro m H W act _ hro hg ha hf hat hds (fun m1 act1 Wa hst1 hat1 hds1 => ?_))⟩
        have := hQ m1 act1 Wa hst1 hat1 hds1
        cases e with
        | norm => exact this
        | ret => exact this
        | exit j => exact (hno _ _ _ _ h').elim
    | loop c _ =>
      intro a ds s e a' ds' s' h
      obtain ⟨hne, k, T, Wr, g, hr⟩ := hloop _ _ _ _ _ _ _ _ _ _ _ h
      exact ⟨T, Wr, g, fun ro m H W act Q hro hg ha hf hat hds hQ => wpIn_loop_out (hr ro m H W act Q hro hg ha hf hat hds hQ)⟩
    | region id ops draw =>
      intro a ds s e a' ds' s' h
      have hco : cCode P N (.region id ops draw) = (if draw && !(P.follows .mixedOrders && backs ops && apartOk ops (Region.before ops) && ancOk ops (Region.before ops)) then .bad else match cOpers P N ops (Region.before ops) ops.toList 0 with
        | some l => .region l draw
        | none => .bad) := rfl
      rw [hco] at h
      split at h
      · cases h
      · rename_i hcond
        split at h
        · rename_i es hes
          cases draw with
          | false =>
            have h' : rzO (evOps (clE O ft (ev O ft n)) (fun l args s => evYield (ev O ft n) l args s) es a s) ds = .ok e a' ds' s' := h
            cases hx : evOps (clE O ft (ev O ft n)) (fun l args s => evYield (ev O ft n) l args s) es a s with
            | none => rw [hx] at h'; cases h'
            | some r =>
              obtain ⟨a1, s1⟩ := r
              rw [hx] at h'
              have h2 : Rz.ok .norm a1 ds s1 = .ok e a' ds' s' := h'
              cases h2
              have hseq := fun (ro : Option Nat) => ops_seq (w0 := w0) (P := P) (N := N) (anc := Region.before ops) (ro := ro) hcl hyl ops.toList 0 es a a' s s' (fun k => by simp) hes hx
              obtain ⟨T, Wr, g, _⟩ := hseq none
              refine ⟨T, Wr, g, fun ro m H W act Q hro hg ha hf hat hds hQ => wpIn_region ?_⟩
              obtain ⟨T', Wr', g', hr⟩ := hseq ro
              have e1 : T' = T := List.append_cancel_right (g'.lg.symm.trans g.lg)
              have e2 : Wr' = Wr := List.append_cancel_right (g'.wl.symm.trans g.wl)
              subst e1; subst e2
              have := hr m H W act Q hg ha hf hat (fun m1 act1 Wa hst1 hat1 hd1 => hQ m1 act1 Wa hst1 hat1 (by rw [hd1]; exact hds.mono hst1.ext))
              rw [List.range_eq_range']
              simpa using this
          | true =>
            have hX : (P.follows .mixedOrders && backs ops && apartOk ops (Region.before ops) && ancOk ops (Region.before ops)) = true := by
              cases hX : (P.follows .mixedOrders && backs ops && apartOk ops (Region.before ops) && ancOk ops (Region.before ops)) with
              | true => rfl
              | false => exact absurd (by rw [hX]; rfl) hcond
            simp only [Bool.and_eq_true] at hX
            have h' : rzO (evRegD (clE O ft (ev O ft n)) (fun l args s => evYield (ev O ft n) l args s) es a s) ds = .ok e a' ds' s' := h
            cases hx : evRegD (clE O ft (ev O ft n)) (fun l args s => evYield (ev O ft n) l args s) es a s with
            | none => rw [hx] at h'; cases h'
            | some r =>
              obtain ⟨a1, s1⟩ := r
              rw [hx] at h'
              have h2 : Rz.ok .norm a1 ds s1 = .ok e a' ds' s' := h'
              cases h2
              have hreg := fun (ro : Option Nat) => regD_ok (w0 := w0) (P := P) (N := N) (anc := Region.before ops) (ro := ro) (id := id) hcl hyl hX.1.1.1 hX.1.1.2 hX.1.2 hX.2 hes hx
              obtain ⟨T, Wr, g, _⟩ := hreg none
              refine ⟨T, Wr, g, fun ro m H W act Q hro hg ha hf hat hds hQ => ?_⟩
              obtain ⟨T', Wr', g', hr⟩ := hreg ro
              have e1 : T' = T := List.append_cancel_right (g'.lg.symm.trans g.lg)
              have e2 : Wr' = Wr := List.append_cancel_right (g'.wl.symm.trans g.wl)
              subst e1; subst e2
              exact hr m H W act Q hg ha hf hat (fun m1 act1 Wa hst1 hat1 hd1 => hQ m1 act1 Wa hst1 hat1 (by rw [hd1]; exact hds.mono hst1.ext))
        · cases h
    | rangeFunc f ps as bo _ _ =>
      intro a ds s e a' ds' s' h
      cases hfo : cO P f with
      | none =>
        have hbad : cCode P N (.rangeFunc f ps as bo) = .bad := by simp only [cCode, hfo]
        rw [hbad] at h; cases h
      | some f' =>
        by_cases hps : ps.toList.all (fun p => decide (p < N)) = true
        case neg =>
          have hbad : cCode P N (.rangeFunc f ps as bo) = .bad := by simp only [cCode, hfo]; rw [if_neg hps]
          rw [hbad] at h; cases h
        have hco : cCode P N (.rangeFunc f ps as bo) = .rangeF f' (ps.toList.map ptc) (cCode P N as) (cCode P N bo) := by simp only [cCode, hfo]; rw [if_pos hps]
        rw [hco] at h
        cases rd with
        | true => cases h
        | false =>
          have h' : (match rdo a f' with
            | some (.fn g first caps) => match ob (allocO .dfr s) fun r => ob (allocO (.loop .ready none fid N a (ps.toList.map ptc) (cCode P N as) (cCode P N bo) r.1) r.2) fun q => ob (clE O ft (ev O ft n) g (first ++ [.yld q.1] ++ caps) q.2) fun p => ob (loopAt q.1 p.2) fun x => some (r.1, q.1, x) with
              | some (d, l, st, pe, f', N', a', ps', as', bo', d', s) => match st with
                | .busy => .fail
                | _ => match putO l (some (.loop .exhausted pe f' N' a' ps' as' bo' d')) s with
                  | some s => .ok (Option.rec .norm (fun e => e) pe) a (d :: ds) s
                  | none => .fail
              | none => .fail
            | _ => .fail) = Rz.ok e a' ds' s' := h
          clear h
          split at h'
          case h_2 => cases h'
          rename_i g first caps hf
          split at h'
          case h_2 => cases h'
          rename_i d l st pe f2 N2 a2 ps2 as2 bo2 d2 s5 hx
          obtain ⟨⟨d1, t1⟩, ha1, hx_⟩ := ob_some hx; clear hx; have hx := hx_; clear hx_
          obtain ⟨⟨l1, t2⟩, ha2, hx_⟩ := ob_some hx; clear hx; have hx := hx_; clear hx_
          obtain ⟨⟨v1, t3⟩, hc, hx_⟩ := ob_some hx; clear hx; have hx := hx_; clear hx_
          obtain ⟨x1, hl, hx_⟩ := ob_some hx; clear hx; have hx := hx_; clear hx_
          cases hx
          obtain ⟨⟨fn, hfn, hbody, hname⟩, T3, W3, g3, hrun3⟩ := hcl _ _ _ _ _ hc
          have hend : st ≠ .busy ∧ ∃ s6, putO l1 (some (.loop .exhausted pe f2 N2 a2 ps2 as2 bo2 d2)) s5 = some s6 ∧ Rz.ok (Option.rec .norm (fun e => e) pe) a (d1 :: ds) s6 = Rz.ok e a' ds' s' := by
            split at h'
            · cases h'
            · rename_i hnb
              split at h'
              · rename_i s6 hp
                exact ⟨hnb, s6, hp, h'⟩
              · cases h'
          obtain ⟨hnb, s6, hp, hres⟩ := hend
          clear h'
          cases hres
          obtain ⟨hnd, ga1, hna1, _⟩ := allocO_spec ha1
          obtain ⟨hnl, ga2, hna2, _⟩ := allocO_spec ha2
          obtain ⟨_, _, g4, _, hn4⟩ := look_spec (loopAt_look hl)
          obtain ⟨_, g5, hn5, _⟩ := putO_spec hp
          have g12 := ga1.trans ga2
          have g123 := g12.trans g3
          have g45 := g4.trans g5
          refine ⟨_, _, g123.trans g45, fun ro m H W act Q hro hg ha hf' hat hds hQ => ?_⟩
          have hro0 := hro rfl
          subst hro0
          have ha123 := ha.right
          have ha12 := ha123.right
          have hf123 := Fresh.right g45 hf'
          have hf12 := Fresh.right g3 hf123
          have hfa1 := Fresh.right ga2 hf12
          refine wpIn_rangeFunc (fun fnid _ => ?_)
          -- what is ranged over
          have hv := rdo_spec (xs := [f]) (act := act) hfo hf (fun t v ht hv => by
            obtain ⟨u, hu, hvu⟩ := hat.2 t v hv
            have : act.eval (.tmp t) = u := by simp [Act.eval, Array.getD_eq_getD_getElem?, hu]
            rw [this]; exact hvu) (by simp) hg.glob
          generalize hz : act.eval f = z at hv
          cases hv
          rename_i vs us hlv hvv hlu hvu
          have hlfirst : LR m first vs := ⟨hlv, hvv⟩
          have hlcaps : LR m caps us := ⟨hlu, hvu⟩
          -- the two blocks
          let W1 : World := W.alloc (.deferred (some []))
          let W2 : World := W1.alloc (.loop { state := .ready, pending := none, fn := fnid, tmps := act.tmps, params := ps, assign := as, body := bo, defers := W.heap.size })
          have hm0 : m d1 = none := hfa1 d1 (by omega) (by show d1 < t1.nx; omega)
          have hstA : Stp w0 P P.globals.size s t1 [] m (mSet m d1 W.heap.size 0) H W W1 := Stp.alloc ha1 hg hfa1 (ob := .deferred (some [])) 0 (by show (W.heap.push _)[W.heap.size]? = _; simp) (fun k hk => by show (W.heap.push _)[k]? = _; simp [Array.getElem?_push, Nat.ne_of_lt hk]) .dfr (fun c el fr q => by cases q)
          have hfa2 : Fresh (mSet m d1 W.heap.size 0) t1 t2 := Fresh.left ga1 hstA hf12
          have hnl' : l1 = t1.nx := hnl
          have hna2' : t2.nx = t1.nx + 1 := hna2
          have hm1 : (mSet m d1 W.heap.size 0) l1 = none := hfa2 l1 (by omega) (by show l1 < t2.nx; omega)
          have hW1s : W1.heap.size = W.heap.size + 1 := by simp [W1]
          have hextB := mSet_ext (b := W1.heap.size) (C := 0) hm1
          have hstB : Stp w0 P P.globals.size t1 t2 [] (mSet m d1 W.heap.size 0) (mSet (mSet m d1 W.heap.size 0) l1 W1.heap.size 0) (updH H s t1 []) W1 W2 := by
            refine Stp.alloc ha2 hstA.good hfa2 (ob := .loop { state := .ready, pending := none, fn := fnid, tmps := act.tmps, params := ps, assign := as, body := bo, defers := W.heap.size }) 0 (by show (W1.heap.push _)[W1.heap.size]? = _; simp) (fun k hk => by show (W1.heap.push _)[k]? = _; simp [Array.getElem?_push, Nat.ne_of_lt hk]) ?_ (fun c el fr q => by cases q)
            exact .loop rfl rfl ((hat.mono hstA.ext).mono hextB) rfl rfl rfl (hextB _ _ (mSet_same _ _ _ _)).1 (fun p hp => by simpa using List.all_eq_true.1 hps p hp) (by simp)
          have hstAB := Stp.trans ga1 ga2 hstA hstB
          let m2 : Tl := mSet (mSet m d1 W.heap.size 0) l1 W1.heap.size 0
          have hml : m2 l1 = some (W.heap.size + 1) := by show mSet _ l1 _ 0 l1 = _; rw [mSet_same, hW1s]
          have hmd : m2 d1 = some W.heap.size := (hextB _ _ (mSet_same _ _ _ _)).1
          refine ⟨W.heap.size + 1, [{ target := .collected W.heap.size, args := #[] }], W2, { target := .fn (.func g) ⟨us⟩, args := Array.mk vs ++ #[.func (.yield (W.heap.size + 1)) #[] #[]] }, W2, g, ⟨vs ++ [.func (.yield (W.heap.size + 1)) #[] #[]] ++ us⟩, W2, ?_, ?_, fun _ _ => trivial, ?_, (fun hd => by cases hd), ?_⟩
          · exact run_enterLoop_outer _ _ _ _ _
          · simp only [resolve, rangeCall, hz, Deferred.ofValue, Sem.run_pure]
            simp [Act.eval]
          · have e : (Array.mk vs ++ #[Act.eval act (.const (.func (.yield (W.heap.size + 1)) #[] #[]))] ++ Array.mk us) = ⟨vs ++ [.func (.yield (W.heap.size + 1)) #[] #[]] ++ us⟩ := by apply Array.ext'; simp [Act.eval]
            simp only [invoke, callFunc, Sem.run_bind, run_program, Result.andThen_ok, hfn, hname, Bool.false_eq_true, if_false, hbody, Sem.run_pure]
            rw [← e]
            simp [Act.eval]
          · refine hrun3 m2 _ W2 _ _ hstAB.good (ha123.left g12) (Fresh.left g12 hstAB hf123) (LR.append (LR.append (hlfirst.mono hstAB.ext) (LR.cons (.yld hml) (LR.nil m2))) (hlcaps.mono hstAB.ext)) (fun m3 v3 Wc hst3 hv3 => ?_)
            have hst123 := Stp.trans g12 g3 hstAB hst3
            have ha45 := ha.left g123
            have hml3 : m3 l1 = some (W.heap.size + 1) := (hst3.ext _ _ hml).1
            obtain ⟨b4, r4, hb4, hw4, hor4, hne4⟩ := loop_obj hl (T := [l1]) ha45.right (by simp) hst123.good
            rw [hml3] at hb4; cases hb4
            obtain ⟨x1, x2, x4, x5, x6, x7, x8, x9, x10⟩ := hor4.loop_inv
            refine ⟨r4.pending, Wc.putObj (W.heap.size + 1) (.loop { r4 with state := .exhausted }), run_endLoop hw4 (by rw [x1]; exact hnb), ?_⟩
            have hst45 : Stp w0 P P.globals.size t3 s' ([l1] ++ []) m3 m3 (updH H s t3 (W3 ++ ([] ++ []))) Wc (Wc.putObj (W.heap.size + 1) (.loop { r4 with state := .exhausted })) := by
              have := Stp.record (r := { r4 with state := .exhausted }) hp hst123.good hne4 hml3 ⟨_, hw4⟩ (.loop rfl x2 x4 x5 x6 x7 x8 x9 x10)
              simpa using Stp.after g4 hn4 g5 hst123.good this
            have hfin := hQ m3 { act with defers := [{ target := .collected W.heap.size, args := #[] }] ++ act.defers } _ (Stp.trans g123 g45 hst123 hst45) (hat.mono hst123.ext) ⟨⟨_, (hst3.ext _ _ hmd).1, rfl⟩, hds.mono hst123.ext⟩
            rw [x2] at hfin ⊢
            cases pe with
            | none => exact hfin
            | some e =>
              cases e with
              | norm => exact absurd rfl x10
              | ret => exact wpIn_ret hfin
              | exit id => exact wpIn_exit hfin
end
end Go.Proofs.Ytonckpblbdopmaa.Rk
