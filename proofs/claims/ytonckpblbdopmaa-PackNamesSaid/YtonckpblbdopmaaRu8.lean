/-
  Reckoning a program in the kernel: equality, slices, lengths. Nothing of the program.
-/
import Derived.Test.YtonckpblbdopmaaRu7
namespace Go.Proofs.Ytonckpblbdopmaa.Rk
set_option linter.unusedVariables false
open Go
set_option maxHeartbeats 2000000

section
variable {w0 : World} {P : Program} {a : Tri AV} {s s' : St} {o : Oper} {v : AV}
theorem intFields_cons {f : Field} {fs : List Field} {ks : List Nat} (h : intFields P (f :: fs) = some ks) : ∃ k l, P.underlying f.type = some (.int k) ∧ f.name ≠ "_" ∧ intFields P fs = some l ∧ ks = f.offset :: l := by
  unfold intFields at h
  split at h
  · rename_i k l h1 h2 h3
    cases h
    exact ⟨k, l, h1, by simpa using h2, h3, rfl⟩
  · cases h
theorem run_eqLoop {d : Nat} {m : Tl} {X Y : Array Value} {xs ys : List AV} (hX : LR m xs X.toList) (hY : LR m ys Y.toList) (w : World) : ∀ (fs : List Field) (ks : List Nat) (r : Bool), intFields P fs = some ks → eqInts xs ys ks = some r →
    Sem.run P (forIn (m := Sem) fs ((none : Option Bool), ()) fun f (_ : Option Bool × Unit) =>
      if f.name ≠ "_" then do
        let __do_lift ← part f.type X f.offset
        let __do_lift_1 ← part f.type Y f.offset
        let __do_lift ← Op.equalIn (d + 1) f.type __do_lift __do_lift_1
        if (!__do_lift) = true then pure (ForInStep.done (some false, ()))
          else pure (ForInStep.yield (none, ()))
      else pure (ForInStep.yield (none, ()))) w = .ok (if r then (none, ()) else (some false, ())) w
  | [], ks, r, h, hr => by cases h; cases hr; rfl
  | f :: fs, ks, r, h, hr => by
    obtain ⟨k, l, hk, hn, hl, rfl⟩ := intFields_cons h
    have hr' : (match xs[f.offset]?, ys[f.offset]? with
      | some (.int k a), some (.int j b) => Bool.rec none (Bool.rec (some false) (eqInts xs ys l) (beqI a b)) (kEq k j)
      | _, _ => none) = some r := hr
    split at hr'
    · rename_i q x j y hx hy
      obtain ⟨h1, h2⟩ := rec_some hr'
      have := kEq_eq h1
      subst this
      obtain ⟨u, hu, hu'⟩ := hX.get hx
      obtain ⟨u2, hv, hv'⟩ := hY.get hy
      cases hu'; cases hv'
      rw [Array.getElem?_toList] at hu hv
      have hp : ∀ (Z : Array Value) (z : Value), Z[f.offset]? = some z → Sem.run P (part f.type Z f.offset) w = .ok z w := fun Z z hz => by simp [part, isAgg, run_und hk, hz]
      rw [List.forIn_cons]
      simp only [Sem.run_bind, hn, ne_eq, not_false_eq_true, if_true, hp X _ hu, hp Y _ hv, Result.andThen_ok, Op.equalIn, run_und hk, Sem.run_pure]
      rw [beqI_eq] at h2
      by_cases he : x = y
      · subst he
        simp only [decide_true] at h2
        simp only [BEq.rfl, Bool.not_true, Bool.false_eq_true, if_false, Sem.run_pure, Result.andThen_ok]
        exact run_eqLoop hX hY w fs l r hl h2
      · simp only [he, decide_false] at h2
        cases h2
        have : (x == y) = false := by simpa using he
        simp [this]
    · cases hr'
theorem eqA_bools {ks : List Nat} {x y : AV} {r : Bool} (h : eqA (.bools ks) x y = some r) : ∃ xs ys, x = .agg xs ∧ y = .agg ys ∧ eqBools xs ys ks = some r := by
  unfold eqA at h
  split at h <;> simp_all
theorem boolFields_cons {f : Field} {fs : List Field} {ks : List Nat} (h : boolFields P (f :: fs) = some ks) : ∃ l, P.underlying f.type = some .bool ∧ f.name ≠ "_" ∧ boolFields P fs = some l ∧ ks = f.offset :: l := by
  unfold boolFields at h
  split at h
  · rename_i l h1 h2 h3
    cases h
    exact ⟨l, h1, by simpa using h2, h3, rfl⟩
  · cases h
theorem run_eqBLoop {d : Nat} {m : Tl} {X Y : Array Value} {xs ys : List AV} (hX : LR m xs X.toList) (hY : LR m ys Y.toList) (w : World) : ∀ (fs : List Field) (ks : List Nat) (r : Bool), boolFields P fs = some ks → eqBools xs ys ks = some r →
    Sem.run P (forIn (m := Sem) fs ((none : Option Bool), ()) fun f (_ : Option Bool × Unit) =>
      if f.name ≠ "_" then do
        let __do_lift ← part f.type X f.offset
        let __do_lift_1 ← part f.type Y f.offset
        let __do_lift ← Op.equalIn (d + 1) f.type __do_lift __do_lift_1
        if (!__do_lift) = true then pure (ForInStep.done (some false, ()))
          else pure (ForInStep.yield (none, ()))
      else pure (ForInStep.yield (none, ()))) w = .ok (if r then (none, ()) else (some false, ())) w
  | [], ks, r, h, hr => by cases h; cases hr; rfl
  | f :: fs, ks, r, h, hr => by
    obtain ⟨l, hk, hn, hl, rfl⟩ := boolFields_cons h
    have hr' : (match xs[f.offset]?, ys[f.offset]? with
      | some (.bool a), some (.bool b) => Bool.rec (some false) (eqBools xs ys l) (a == b)
      | _, _ => none) = some r := hr
    split at hr'
    · rename_i x y hx hy
      obtain ⟨u, hu, hu'⟩ := hX.get hx
      obtain ⟨u2, hv, hv'⟩ := hY.get hy
      cases hu'; cases hv'
      rw [Array.getElem?_toList] at hu hv
      have hp : ∀ (Z : Array Value) (z : Value), Z[f.offset]? = some z → Sem.run P (part f.type Z f.offset) w = .ok z w := fun Z z hz => by simp [part, isAgg, run_und hk, hz]
      rw [List.forIn_cons]
      simp only [Sem.run_bind, hn, ne_eq, not_false_eq_true, if_true, hp X _ hu, hp Y _ hv, Result.andThen_ok, Op.equalIn, run_und hk, Sem.run_pure]
      cases hb : (x == y) with
      | true =>
        rw [hb] at hr'
        simp only [Bool.not_true, Bool.false_eq_true, if_false, Sem.run_pure, Result.andThen_ok]
        exact run_eqBLoop hX hY w fs l r hl hr'
      | false =>
        rw [hb] at hr'
        cases hr'
        simp
    · cases hr'
theorem eqA_nilP {x y : AV} {r : Bool} (h : eqA .nilP x y = some r) : (x = .nilp ∧ y = .nilp ∧ r = true) ∨ (x = .nilp ∧ (∃ n k, y = .ptr n k) ∧ r = false) ∨ ((∃ n k, x = .ptr n k) ∧ y = .nilp ∧ r = false) := by
  unfold eqA at h
  split at h <;> simp_all
theorem eqA_nilS {x y : AV} {r : Bool} (h : eqA .nilS x y = some r) : (x = .nils ∧ y = .nils ∧ r = true) ∨ (x = .nils ∧ (∃ n k l c, y = .sl n k l c ∨ y = .slu n k l c) ∧ r = false) ∨ ((∃ n k l c, x = .sl n k l c ∨ x = .slu n k l c) ∧ y = .nils ∧ r = false) := by
  unfold eqA at h
  split at h <;> simp_all
theorem eqA_nilF {x y : AV} {r : Bool} (h : eqA .nilF x y = some r) : (x = .nilf ∧ y = .nilf ∧ r = true) ∨ (x = .nilf ∧ (∃ n k l, y = .fn n k l) ∧ r = false) ∨ ((∃ n k l, x = .fn n k l) ∧ y = .nilf ∧ r = false) := by
  unfold eqA at h
  split at h <;> simp_all
theorem eqA_nilM {x y : AV} {r : Bool} (h : eqA .nilM x y = some r) : (x = .nilm ∧ y = .nilm ∧ r = true) ∨ (x = .nilm ∧ (∃ n, y = .map n) ∧ r = false) ∨ ((∃ n, x = .map n) ∧ y = .nilm ∧ r = false) := by
  unfold eqA at h
  split at h <;> simp_all
theorem eqA_bool {x y : AV} {r : Bool} (h : eqA .bool x y = some r) : ∃ a b, x = .bool a ∧ y = .bool b ∧ r = (a == b) := by
  unfold eqA at h
  split at h <;> simp_all
theorem eqA_ints {ks : List Nat} {x y : AV} {r : Bool} (h : eqA (.ints ks) x y = some r) : ∃ xs ys, x = .agg xs ∧ y = .agg ys ∧ eqInts xs ys ks = some r := by
  unfold eqA at h
  split at h <;> simp_all
/-- The two values, as they may stand, and what == and its guard come to. -/
theorem run_eqs {t : TypeId} {e : EqT} {x y : AV} {z1 z2 : Value} {r : Bool} {m : Tl} (ht : eqT P t = some e) (h : eqA e x y = some r) (h1 : VR m x z1) (h2 : VR m y z2) (w : World) :
    (∀ d, (Op.equalIn (d + 2) t z1 z2).run P w = .ok r w) ∧ (∀ op X Y, (eqGuard op t X Y z1 z2).run P w = .ok () w) ∧
    binOp .eql t z1 z2 = (do pure (.bool (← Op.equal t z1 z2))) ∧ binOp .neq t z1 z2 = (do pure (.bool (!(← Op.equal t z1 z2)))) := by
  unfold eqT at ht
  split at ht
  · rename_i hu
    cases ht
    obtain ⟨p, q, rfl, rfl, rfl⟩ := eqA_bool h
    cases h1; cases h2
    refine ⟨fun d => ?_, fun op X Y => ?_, rfl, rfl⟩
    · simp only [Op.equalIn, Sem.run_bind, run_und hu, Result.andThen_ok, Sem.run_pure]
    · cases op <;> rfl
  · rename_i hu
    cases ht
    rcases eqA_nilP h with ⟨rfl, rfl, rfl⟩ | ⟨rfl, ⟨n, k, rfl⟩, rfl⟩ | ⟨⟨n, k, rfl⟩, rfl, rfl⟩ <;> cases h1 <;> cases h2 <;> refine ⟨fun d => ?_, fun op X Y => ?_, rfl, rfl⟩ <;>
      first | (simp only [Op.equalIn, Sem.run_bind, run_und hu, Result.andThen_ok, Sem.run_pure]; done) | (simp only [Op.equalIn, Sem.run_bind, run_und hu, Result.andThen_ok, Sem.run_pure]; rfl) | (cases op <;> rfl)
  · rename_i hu
    cases ht
    rcases eqA_nilS h with ⟨rfl, rfl, rfl⟩ | ⟨rfl, ⟨n, k, l, c, (rfl | rfl)⟩, rfl⟩ | ⟨⟨n, k, l, c, (rfl | rfl)⟩, rfl, rfl⟩ <;> cases h1 <;> cases h2 <;> refine ⟨fun d => ?_, fun op X Y => ?_, rfl, rfl⟩ <;>
      first | (simp only [Op.equalIn, Sem.run_bind, run_und hu, Result.andThen_ok, Sem.run_pure]; done) | (simp only [Op.equalIn, Sem.run_bind, run_und hu, Result.andThen_ok, Sem.run_pure]; rfl) | (cases op <;> rfl)
  · rename_i hu
    cases ht
    rcases eqA_nilM h with ⟨rfl, rfl, rfl⟩ | ⟨rfl, ⟨n, rfl⟩, rfl⟩ | ⟨⟨n, rfl⟩, rfl, rfl⟩ <;> cases h1 <;> cases h2 <;> refine ⟨fun d => ?_, fun op X Y => ?_, rfl, rfl⟩ <;>
      first | (simp only [Op.equalIn, Sem.run_bind, run_und hu, Result.andThen_ok, Sem.run_pure]; done) | (simp only [Op.equalIn, Sem.run_bind, run_und hu, Result.andThen_ok, Sem.run_pure]; rfl) | (cases op <;> rfl)
  · rename_i hu
    cases ht
    rcases eqA_nilF h with ⟨rfl, rfl, rfl⟩ | ⟨rfl, ⟨n, k, l, rfl⟩, rfl⟩ | ⟨⟨n, k, l, rfl⟩, rfl, rfl⟩ <;> cases h1 <;> cases h2 <;> refine ⟨fun d => ?_, fun op X Y => ?_, rfl, rfl⟩ <;>
      first | (simp only [Op.equalIn, Sem.run_bind, run_und hu, Result.andThen_ok, Sem.run_pure]; done) | (simp only [Op.equalIn, Sem.run_bind, run_und hu, Result.andThen_ok, Sem.run_pure]; rfl) | (cases op <;> rfl)
  · rename_i fs hu
    split at ht
    · cases ht
    · rename_i hno
      rw [Bool.not_eq_true, Bool.or_eq_false_iff] at hno
      have hff := fun (vs us : List Value) (d : Nat) => Array.forIn_toList (m := Sem) (xs := fs) (b := ((none : Option Bool), ())) (f := fun f (_ : Option Bool × Unit) =>
        if f.name ≠ "_" then do
          let __do_lift ← part f.type ⟨vs⟩ f.offset
          let __do_lift_1 ← part f.type ⟨us⟩ f.offset
          let __do_lift ← Op.equalIn (d + 1) f.type __do_lift __do_lift_1
          if (!__do_lift) = true then pure (ForInStep.done (some false, ()))
            else pure (ForInStep.yield (none, ()))
        else pure (ForInStep.yield (none, ())))
      split at ht
      · rename_i ks hf
        cases ht
        obtain ⟨xs, ys, rfl, rfl, h⟩ := eqA_ints h
        cases h1; cases h2
        rename_i vs hl hv us hl' hv'
        refine ⟨fun d => ?_, fun op X Y => ?_, rfl, rfl⟩
        · have hloop := run_eqLoop (d := d) (X := ⟨vs⟩) (Y := ⟨us⟩) ⟨hl, hv⟩ ⟨hl', hv'⟩ w fs.toList ks r hf h
          rw [hff vs us d] at hloop
          rw [Op.equalIn]
          simp only [Sem.run_bind, run_und hu, Result.andThen_ok, run_program, hno.1, Bool.false_eq_true, if_false]
          rw [hloop]
          cases r <;> rfl
        · unfold eqGuard
          cases op <;> simp [hno.2]
      · cases hf : boolFields P fs.toList with
        | none => rw [hf] at ht; cases ht
        | some ks =>
          rw [hf] at ht; cases ht
          obtain ⟨xs, ys, rfl, rfl, h⟩ := eqA_bools h
          cases h1; cases h2
          rename_i vs hl hv us hl' hv'
          refine ⟨fun d => ?_, fun op X Y => ?_, rfl, rfl⟩
          · have hloop := run_eqBLoop (d := d) (X := ⟨vs⟩) (Y := ⟨us⟩) ⟨hl, hv⟩ ⟨hl', hv'⟩ w fs.toList ks r hf h
            rw [hff vs us d] at hloop
            rw [Op.equalIn]
            simp only [Sem.run_bind, run_und hu, Result.andThen_ok, run_program, hno.1, Bool.false_eq_true, if_false]
            rw [hloop]
            cases r <;> rfl
          · unfold eqGuard
            cases op <;> simp [hno.2]
  · cases ht
theorem run_binEq {neg : Bool} {t : TypeId} {e : EqT} {x y : AV} {z1 z2 : Value} {r : Bool} {m : Tl} (ht : eqT P t = some e) (h : eqA e x y = some r) (h1 : VR m x z1) (h2 : VR m y z2) (w : World) :
    (binOp (if neg then .neq else .eql) t z1 z2).run P w = .ok (.bool (neg ^^ r)) w := by
  obtain ⟨he, _, hb1, hb2⟩ := run_eqs ht h h1 h2 w
  have he : (Op.equal t z1 z2).run P w = .ok r w := he 9998
  cases neg
  · simp only [Bool.false_eq_true, if_false]
    rw [hb1]
    simp [he]
  · simp only [if_true]
    rw [hb2]
    simp [he]
theorem OpG.eq {neg : Bool} {t u : TypeId} {e : EqT} {x y : Operand} {x' y' : Opd} (ho : o.op = .binOp (if neg then .neq else .eql) t x y u) (ht : eqT P t = some e) (hx : cO P x = some x') (hy : cO P y = some y') {cl yl : Nat → List AV → St → Option (AV × St)}
    (h : evOp cl yl a s (.eq neg e x' y') = some (v, s')) : OpG w0 P a s s' o v := by
  obtain ⟨p, hp, h_⟩ := ob_some h; clear h; have h := h_; clear h_
  obtain ⟨q, hq, h_⟩ := ob_some h; clear h; have h := h_; clear h_
  obtain ⟨r, hr0, h_⟩ := ob_some h; clear h; have h := h_; clear h_
  obtain ⟨hv0, rfl⟩ := pureO_some h; clear h
  rw [mkB_eq] at hv0
  cases hv0
  refine .pure fun m W act hg hr => ?_
  have h1 := rdo_spec hx hp hr (by simp [ho, Op.operands]) hg
  have h2 := rdo_spec hy hq hr (by simp [ho, Op.operands]) hg
  exact ⟨_, by simp only [execOp, ho, Sem.run_bind, (run_eqs ht hr0 h1 h2 W).2.1, Result.andThen_ok, run_binEq ht hr0 h1 h2, Sem.run_pure], .bool _⟩
theorem run_bnd {m : Tl} {act : Act} {xs : List Operand} {hi : Option Operand} {hi' : Option Opd} {d y j : Nat} (hc : cOpt P hi = some hi') (h : bnd a d y hi' = some j) (hr : RdOk m a act xs) (hm : ∀ x, hi = some x → x ∈ xs) (hg : ∀ g, g < P.globals.size → m g = some g) :
    (hi = none ∧ j = d) ∨ (∃ x k, hi = some x ∧ act.eval x = .int k (j : Int) ∧ j ≤ y ∧ ∀ code w, (Instr.sliceBound (.int k (j : Int)) y code).run P w = .ok j w) := by
  cases hi with
  | none => cases hc; cases h; exact .inl ⟨rfl, rfl⟩
  | some x =>
    simp only [cOpt] at hc
    cases hx : cO P x with
    | none => rw [hx] at hc; cases hc
    | some x' =>
      rw [hx] at hc
      cases hc
      obtain ⟨p, hp, h_⟩ := ob_some h; clear h; have h := h_; clear h_
      split at h
      · rename_i k i
        obtain ⟨hle, h_⟩ := rec_some h; clear h; have h := h_; clear h_
        have hle := Nat.le_of_ble_eq_true hle
        cases h
        have h1 := rdo_spec hx hp hr (hm x rfl) hg
        generalize hz : act.eval x = z at h1
        cases h1
        refine .inr ⟨x, k, rfl, hz, hle, fun code w => ?_⟩
        have : (0 : Int) ≤ (j : Int) ∧ (j : Int) ≤ (y : Int) := by omega
        simp only [Instr.sliceBound, asIntOf, Sem.run_bind, Sem.run_pure, Result.andThen_ok]
        rw [if_pos this]
        simp
      · cases h
/-- The bounds of a slice without a third one. -/
theorem run_bounds {m : Tl} {act : Act} {xs : List Operand} {lo hi : Option Operand} {lo' hi' : Option Opd} {len cap b h l : Nat} (isS : Bool) (hc : cOpt P hi = some hi') (hd : cOpt P lo = some lo') (hb : b ≤ cap) (h1 : bnd a len b hi' = some h) (h2 : bnd a 0 h lo' = some l)
    (hr : RdOk m a act xs) (hm : ∀ x, hi = some x → x ∈ xs) (hm' : ∀ x, lo = some x → x ∈ xs) (hg : ∀ g, g < P.globals.size → m g = some g) (w : World) :
    (Instr.sliceBounds isS len cap (lo.map act.eval) (hi.map act.eval) none).run P w = .ok (l, h, cap) w ∧ (hi = none → h = len) ∧ l ≤ h ∧ (hi.isSome → h ≤ b) := by
  have e1 := run_bnd hc h1 hr hm hg
  have e2 := run_bnd hd h2 hr hm' hg
  refine ⟨?_, ?_, ?_, ?_⟩
  · rcases e1 with ⟨rfl, rfl⟩ | ⟨x, k, rfl, hx, hle, hrun⟩ <;> rcases e2 with ⟨rfl, rfl⟩ | ⟨y, k2, rfl, hy, hle2, hrun2⟩
    · simp [Instr.sliceBounds]
    · simp [Instr.sliceBounds, hy, hrun2]
    · have hb : ∀ code, (Instr.sliceBound (.int k (h : Int)) cap code).run P w = .ok h w := fun code => by
        have : (0 : Int) ≤ (h : Int) ∧ (h : Int) ≤ (cap : Int) := by omega
        simp only [Instr.sliceBound, asIntOf, Sem.run_bind, Sem.run_pure, Result.andThen_ok]
        rw [if_pos this]
        simp
      simp [Instr.sliceBounds, hx, hb]
    · have hb : ∀ code, (Instr.sliceBound (.int k (h : Int)) cap code).run P w = .ok h w := fun code => by
        have : (0 : Int) ≤ (h : Int) ∧ (h : Int) ≤ (cap : Int) := by omega
        simp only [Instr.sliceBound, asIntOf, Sem.run_bind, Sem.run_pure, Result.andThen_ok]
        rw [if_pos this]
        simp
      simp [Instr.sliceBounds, hx, hy, hb, hrun2]
  · rintro rfl
    rcases e1 with ⟨_, rfl⟩ | ⟨x, k, hx, _⟩
    · rfl
    · cases hx
  · rcases e2 with ⟨_, rfl⟩ | ⟨y, k2, _, _, hle2, _⟩
    · omega
    · exact hle2
  · intro hs
    rcases e1 with ⟨rfl, _⟩ | ⟨x, k, _, _, hle, _⟩
    · cases hs
    · exact hle
end
end Go.Proofs.Ytonckpblbdopmaa.Rk
