/-
  Joined texts: RtXb.
-/
import Derived.Test.YtjckgagkkknmnaaDoorHiG5
import Derived.Laws.BytesArg
import Derived.Laws.Append
import Derived.Deep.DeepAppendWide
import Derived.Laws.AppendOwn
import Derived.Laws.BytesString
/-
  Joined texts: Rt8 Rt9 Rta Rtb Rtc Rtd Rte Rtf Rtg Rth Rti.
-/
/-
  Reckoning a program in the kernel: equality, slices, lengths. Nothing of the program.
-/
namespace Go.Proofs.YtjckgagkkknmnaaDoor.Rk
set_option linter.unusedVariables false
set_option linter.unusedVariables false
set_option linter.unusedSimpArgs false
open Go
set_option maxHeartbeats 2000000

section
variable {w0 : World} {P : Program} {a : Tri AV} {s s' : St} {o : Oper} {v : AV}
theorem intFields_cons {f : Field} {fs : List Field} {ks : List Nat} (h : intFields P (f :: fs) = some ks) : ∃ k l, P.underlying f.type = some (.int k) ∧ f.name ≠ "_" ∧ intFields P fs = some l ∧ ks = f.offset :: l := by
  unfold intFields at h
  split at h
  · rename_i k l h1 h2 h3
    cases h
    exact ⟨k, l, h1, by simpa using h2, h3, rfl⟩
  · cases h
theorem run_eqLoop {d : Nat} {m : Tl} {X Y : Array Value} {xs ys : List AV} (hX : LR m xs X.toList) (hY : LR m ys Y.toList) (w : World) : ∀ (fs : List Field) (ks : List Nat) (r : Bool), intFields P fs = some ks → eqInts xs ys ks = some r →
    Sem.run P (forIn (m := Sem) fs ((none : Option Bool), ()) fun f (_ : Option Bool × Unit) =>
      if f.name ≠ "_" then do
        let __do_lift ← part f.type X f.offset
        let __do_lift_1 ← part f.type Y f.offset
        let __do_lift ← Op.equalIn (d + 1) f.type __do_lift __do_lift_1
        if (!__do_lift) = true then pure (ForInStep.done (some false, ()))
          else pure (ForInStep.yield (none, ()))
      else pure (ForInStep.yield (none, ()))) w = .ok (if r then (none, ()) else (some false, ())) w
  | [], ks, r, h, hr => by cases h; cases hr; rfl
  | f :: fs, ks, r, h, hr => by
    obtain ⟨k, l, hk, hn, hl, rfl⟩ := intFields_cons h
    have hr' : (match xs[f.offset]?, ys[f.offset]? with
      | some (.int k a), some (.int j b) => Bool.rec none (Bool.rec (some false) (eqInts xs ys l) (beqI a b)) (kEq k j)
      | _, _ => none) = some r := hr
    split at hr'
    · rename_i q x j y hx hy
      obtain ⟨h1, h2⟩ := rec_some hr'
      have := kEq_eq h1
      subst this
      obtain ⟨u, hu, hu'⟩ := hX.get hx
      obtain ⟨u2, hv, hv'⟩ := hY.get hy
      cases hu'; cases hv'
      rw [Array.getElem?_toList] at hu hv
      have hp : ∀ (Z : Array Value) (z : Value), Z[f.offset]? = some z → Sem.run P (part f.type Z f.offset) w = .ok z w := fun Z z hz => by simp [part, isAgg, run_und hk, hz]
      rw [List.forIn_cons]
      simp only [Sem.run_bind, hn, ne_eq, not_false_eq_true, if_true, hp X _ hu, hp Y _ hv, Result.andThen_ok, Op.equalIn, run_und hk, Sem.run_pure]
      rw [beqI_eq] at h2
      by_cases he : x = y
      · subst he
        simp only [decide_true] at h2
        simp only [BEq.rfl, Bool.not_true, Bool.false_eq_true, if_false, Sem.run_pure, Result.andThen_ok]
        exact run_eqLoop hX hY w fs l r hl h2
      · simp only [he, decide_false] at h2
        cases h2
        have : (x == y) = false := by simpa using he
        simp [this]
    · cases hr'
theorem eqA_bools {ks : List Nat} {x y : AV} {r : Bool} (h : eqA (.bools ks) x y = some r) : ∃ xs ys, x = .agg xs ∧ y = .agg ys ∧ eqBools xs ys ks = some r := by
  unfold eqA at h
  split at h <;> simp_all
theorem boolFields_cons {f : Field} {fs : List Field} {ks : List Nat} (h : boolFields P (f :: fs) = some ks) : ∃ l, P.underlying f.type = some .bool ∧ f.name ≠ "_" ∧ boolFields P fs = some l ∧ ks = f.offset :: l := by
  unfold boolFields at h
  split at h
  · rename_i l h1 h2 h3
    cases h
    exact ⟨l, h1, by simpa using h2, h3, rfl⟩
  · cases h
theorem run_eqBLoop {d : Nat} {m : Tl} {X Y : Array Value} {xs ys : List AV} (hX : LR m xs X.toList) (hY : LR m ys Y.toList) (w : World) : ∀ (fs : List Field) (ks : List Nat) (r : Bool), boolFields P fs = some ks → eqBools xs ys ks = some r →
    Sem.run P (forIn (m := Sem) fs ((none : Option Bool), ()) fun f (_ : Option Bool × Unit) =>
      if f.name ≠ "_" then do
        let __do_lift ← part f.type X f.offset
        let __do_lift_1 ← part f.type Y f.offset
        let __do_lift ← Op.equalIn (d + 1) f.type __do_lift __do_lift_1
        if (!__do_lift) = true then pure (ForInStep.done (some false, ()))
          else pure (ForInStep.yield (none, ()))
      else pure (ForInStep.yield (none, ()))) w = .ok (if r then (none, ()) else (some false, ())) w
  | [], ks, r, h, hr => by cases h; cases hr; rfl
  | f :: fs, ks, r, h, hr => by
    obtain ⟨l, hk, hn, hl, rfl⟩ := boolFields_cons h
    have hr' : (match xs[f.offset]?, ys[f.offset]? with
      | some (.bool a), some (.bool b) => Bool.rec (some false) (eqBools xs ys l) (a == b)
      | _, _ => none) = some r := hr
    split at hr'
    · rename_i x y hx hy
      obtain ⟨u, hu, hu'⟩ := hX.get hx
      obtain ⟨u2, hv, hv'⟩ := hY.get hy
      cases hu'; cases hv'
      rw [Array.getElem?_toList] at hu hv
      have hp : ∀ (Z : Array Value) (z : Value), Z[f.offset]? = some z → Sem.run P (part f.type Z f.offset) w = .ok z w := fun Z z hz => by simp [part, isAgg, run_und hk, hz]
      rw [List.forIn_cons]
      simp only [Sem.run_bind, hn, ne_eq, not_false_eq_true, if_true, hp X _ hu, hp Y _ hv, Result.andThen_ok, Op.equalIn, run_und hk, Sem.run_pure]
      cases hb : (x == y) with
      | true =>
        rw [hb] at hr'
        simp only [Bool.not_true, Bool.false_eq_true, if_false, Sem.run_pure, Result.andThen_ok]
        exact run_eqBLoop hX hY w fs l r hl hr'
      | false =>
        rw [hb] at hr'
        cases hr'
        simp
    · cases hr'
theorem eqA_nilP {x y : AV} {r : Bool} (h : eqA .nilP x y = some r) : (x = .nilp ∧ y = .nilp ∧ r = true) ∨ (x = .nilp ∧ (∃ n k, y = .ptr n k) ∧ r = false) ∨ ((∃ n k, x = .ptr n k) ∧ y = .nilp ∧ r = false) := by
  unfold eqA at h
  split at h <;> simp_all
theorem eqA_nilS {x y : AV} {r : Bool} (h : eqA .nilS x y = some r) : (x = .nils ∧ y = .nils ∧ r = true) ∨ (x = .nils ∧ (∃ n k l c, y = .sl n k l c ∨ y = .slu n k l c) ∧ r = false) ∨ ((∃ n k l c, x = .sl n k l c ∨ x = .slu n k l c) ∧ y = .nils ∧ r = false) := by
  unfold eqA at h
  split at h <;> simp_all
theorem eqA_nilF {x y : AV} {r : Bool} (h : eqA .nilF x y = some r) : (x = .nilf ∧ y = .nilf ∧ r = true) ∨ (x = .nilf ∧ (∃ n k l, y = .fn n k l) ∧ r = false) ∨ ((∃ n k l, x = .fn n k l) ∧ y = .nilf ∧ r = false) := by
  unfold eqA at h
  split at h <;> simp_all
theorem eqA_nilM {x y : AV} {r : Bool} (h : eqA .nilM x y = some r) : (x = .nilm ∧ y = .nilm ∧ r = true) ∨ (x = .nilm ∧ (∃ n, y = .map n) ∧ r = false) ∨ ((∃ n, x = .map n) ∧ y = .nilm ∧ r = false) := by
  unfold eqA at h
  split at h <;> simp_all
theorem eqA_bool {x y : AV} {r : Bool} (h : eqA .bool x y = some r) : ∃ a b, x = .bool a ∧ y = .bool b ∧ r = (a == b) := by
  unfold eqA at h
  split at h <;> simp_all
theorem eqA_ints {ks : List Nat} {x y : AV} {r : Bool} (h : eqA (.ints ks) x y = some r) : ∃ xs ys, x = .agg xs ∧ y = .agg ys ∧ eqInts xs ys ks = some r := by
  unfold eqA at h
  split at h <;> simp_all
/-- The two values, as they may stand, and what == and its guard come to. -/
theorem run_eqs {t : TypeId} {e : EqT} {x y : AV} {z1 z2 : Value} {r : Bool} {m : Tl} (ht : eqT P t = some e) (h : eqA e x y = some r) (h1 : VR m x z1) (h2 : VR m y z2) (w : World) :
    (∀ d, (Op.equalIn (d + 2) t z1 z2).run P w = .ok r w) ∧ (∀ op X Y, (eqGuard op t X Y z1 z2).run P w = .ok () w) ∧
    binOp .eql t z1 z2 = (do pure (.bool (← Op.equal t z1 z2))) ∧ binOp .neq t z1 z2 = (do pure (.bool (!(← Op.equal t z1 z2)))) := by
  unfold eqT at ht
  split at ht
  · rename_i hu
    cases ht
    obtain ⟨p, q, rfl, rfl, rfl⟩ := eqA_bool h
    cases h1; cases h2
    refine ⟨fun d => ?_, fun op X Y => ?_, rfl, rfl⟩
    · simp only [Op.equalIn, Sem.run_bind, run_und hu, Result.andThen_ok, Sem.run_pure]
    · cases op <;> rfl
  · rename_i hu
    cases ht
    rcases eqA_nilP h with ⟨rfl, rfl, rfl⟩ | ⟨rfl, ⟨n, k, rfl⟩, rfl⟩ | ⟨⟨n, k, rfl⟩, rfl, rfl⟩ <;> cases h1 <;> cases h2 <;> refine ⟨fun d => ?_, fun op X Y => ?_, rfl, rfl⟩ <;>
      first | (simp only [Op.equalIn, Sem.run_bind, run_und hu, Result.andThen_ok, Sem.run_pure]; done) | (simp only [Op.equalIn, Sem.run_bind, run_und hu, Result.andThen_ok, Sem.run_pure]; rfl) | (cases op <;> rfl)
  · rename_i hu
    cases ht
    rcases eqA_nilS h with ⟨rfl, rfl, rfl⟩ | ⟨rfl, ⟨n, k, l, c, (rfl | rfl)⟩, rfl⟩ | ⟨⟨n, k, l, c, (rfl | rfl)⟩, rfl, rfl⟩ <;> cases h1 <;> cases h2 <;> refine ⟨fun d => ?_, fun op X Y => ?_, rfl, rfl⟩ <;>
      first | (simp only [Op.equalIn, Sem.run_bind, run_und hu, Result.andThen_ok, Sem.run_pure]; done) | (simp only [Op.equalIn, Sem.run_bind, run_und hu, Result.andThen_ok, Sem.run_pure]; rfl) | (cases op <;> rfl)
  · rename_i hu
    cases ht
    rcases eqA_nilM h with ⟨rfl, rfl, rfl⟩ | ⟨rfl, ⟨n, rfl⟩, rfl⟩ | ⟨⟨n, rfl⟩, rfl, rfl⟩ <;> cases h1 <;> cases h2 <;> refine ⟨fun d => ?_, fun op X Y => ?_, rfl, rfl⟩ <;>
      first | (simp only [Op.equalIn, Sem.run_bind, run_und hu, Result.andThen_ok, Sem.run_pure]; done) | (simp only [Op.equalIn, Sem.run_bind, run_und hu, Result.andThen_ok, Sem.run_pure]; rfl) | (cases op <;> rfl)
  · rename_i hu
    cases ht
    rcases eqA_nilF h with ⟨rfl, rfl, rfl⟩ | ⟨rfl, ⟨n, k, l, rfl⟩, rfl⟩ | ⟨⟨n, k, l, rfl⟩, rfl, rfl⟩ <;> cases h1 <;> cases h2 <;> refine ⟨fun d => ?_, fun op X Y => ?_, rfl, rfl⟩ <;>
      first | (simp only [Op.equalIn, Sem.run_bind, run_und hu, Result.andThen_ok, Sem.run_pure]; done) | (simp only [Op.equalIn, Sem.run_bind, run_und hu, Result.andThen_ok, Sem.run_pure]; rfl) | (cases op <;> rfl)
  · rename_i fs hu
    split at ht
    · cases ht
    · rename_i hno
      rw [Bool.not_eq_true, Bool.or_eq_false_iff] at hno
      have hff := fun (vs us : List Value) (d : Nat) => Array.forIn_toList (m := Sem) (xs := fs) (b := ((none : Option Bool), ())) (f := fun f (_ : Option Bool × Unit) =>
        if f.name ≠ "_" then do
          let __do_lift ← part f.type ⟨vs⟩ f.offset
          let __do_lift_1 ← part f.type ⟨us⟩ f.offset
          let __do_lift ← Op.equalIn (d + 1) f.type __do_lift __do_lift_1
          if (!__do_lift) = true then pure (ForInStep.done (some false, ()))
            else pure (ForInStep.yield (none, ()))
        else pure (ForInStep.yield (none, ())))
      split at ht
      · rename_i ks hf
        cases ht
        obtain ⟨xs, ys, rfl, rfl, h⟩ := eqA_ints h
        cases h1; cases h2
        rename_i vs hl hv us hl' hv'
        refine ⟨fun d => ?_, fun op X Y => ?_, rfl, rfl⟩
        · have hloop := run_eqLoop (d := d) (X := ⟨vs⟩) (Y := ⟨us⟩) ⟨hl, hv⟩ ⟨hl', hv'⟩ w fs.toList ks r hf h
          rw [hff vs us d] at hloop
          rw [Op.equalIn]
          simp only [Sem.run_bind, run_und hu, Result.andThen_ok, run_program, hno.1, Bool.false_eq_true, if_false]
          rw [hloop]
          cases r <;> rfl
        · unfold eqGuard
          cases op <;> simp [hno.2]
      · cases hf : boolFields P fs.toList with
        | none => rw [hf] at ht; cases ht
        | some ks =>
          rw [hf] at ht; cases ht
          obtain ⟨xs, ys, rfl, rfl, h⟩ := eqA_bools h
          cases h1; cases h2
          rename_i vs hl hv us hl' hv'
          refine ⟨fun d => ?_, fun op X Y => ?_, rfl, rfl⟩
          · have hloop := run_eqBLoop (d := d) (X := ⟨vs⟩) (Y := ⟨us⟩) ⟨hl, hv⟩ ⟨hl', hv'⟩ w fs.toList ks r hf h
            rw [hff vs us d] at hloop
            rw [Op.equalIn]
            simp only [Sem.run_bind, run_und hu, Result.andThen_ok, run_program, hno.1, Bool.false_eq_true, if_false]
            rw [hloop]
            cases r <;> rfl
          · unfold eqGuard
            cases op <;> simp [hno.2]
  · cases ht
theorem run_binEq {neg : Bool} {t : TypeId} {e : EqT} {x y : AV} {z1 z2 : Value} {r : Bool} {m : Tl} (ht : eqT P t = some e) (h : eqA e x y = some r) (h1 : VR m x z1) (h2 : VR m y z2) (w : World) :
    (binOp (if neg then .neq else .eql) t z1 z2).run P w = .ok (.bool (neg ^^ r)) w := by
  obtain ⟨he, _, hb1, hb2⟩ := run_eqs ht h h1 h2 w
  have he : (Op.equal t z1 z2).run P w = .ok r w := he 9998
  cases neg
  · simp only [Bool.false_eq_true, if_false]
    rw [hb1]
    simp [he]
  · simp only [if_true]
    rw [hb2]
    simp [he]
theorem OpG.eq {neg : Bool} {t u : TypeId} {e : EqT} {x y : Operand} {x' y' : Opd} (ho : o.op = .binOp (if neg then .neq else .eql) t x y u) (ht : eqT P t = some e) (hx : cO P x = some x') (hy : cO P y = some y') {cl yl : Nat → List AV → St → Option (AV × St)}
    (h : evOp cl yl a s (.eq neg e x' y') = some (v, s')) : OpG w0 P a s s' o v := by
  obtain ⟨p, hp, h_⟩ := ob_some h; clear h; have h := h_; clear h_
  obtain ⟨q, hq, h_⟩ := ob_some h; clear h; have h := h_; clear h_
  obtain ⟨r, hr0, h_⟩ := ob_some h; clear h; have h := h_; clear h_
  obtain ⟨hv0, rfl⟩ := pureO_some h; clear h
  rw [mkB_eq] at hv0
  cases hv0
  refine .pure fun m W act hg hr => ?_
  have h1 := rdo_spec hx hp hr (by simp [ho, Op.operands]) hg
  have h2 := rdo_spec hy hq hr (by simp [ho, Op.operands]) hg
  exact ⟨_, by simp only [execOp, ho, Sem.run_bind, (run_eqs ht hr0 h1 h2 W).2.1, Result.andThen_ok, run_binEq ht hr0 h1 h2, Sem.run_pure], .bool _⟩
theorem run_bnd {m : Tl} {act : Act} {xs : List Operand} {hi : Option Operand} {hi' : Option Opd} {d y j : Nat} (hc : cOpt P hi = some hi') (h : bnd a d y hi' = some j) (hr : RdOk m a act xs) (hm : ∀ x, hi = some x → x ∈ xs) (hg : ∀ g, g < P.globals.size → m g = some g) :
    (hi = none ∧ j = d) ∨ (∃ x k, hi = some x ∧ act.eval x = .int k (j : Int) ∧ j ≤ y ∧ ∀ code w, (Instr.sliceBound (.int k (j : Int)) y code).run P w = .ok j w) := by
  cases hi with
  | none => cases hc; cases h; exact .inl ⟨rfl, rfl⟩
  | some x =>
    simp only [cOpt] at hc
    cases hx : cO P x with
    | none => rw [hx] at hc; cases hc
    | some x' =>
      rw [hx] at hc
      cases hc
      obtain ⟨p, hp, h_⟩ := ob_some h; clear h; have h := h_; clear h_
      split at h
      · rename_i k i
        obtain ⟨hle, h_⟩ := rec_some h; clear h; have h := h_; clear h_
        have hle := Nat.le_of_ble_eq_true hle
        cases h
        have h1 := rdo_spec hx hp hr (hm x rfl) hg
        generalize hz : act.eval x = z at h1
        cases h1
        refine .inr ⟨x, k, rfl, hz, hle, fun code w => ?_⟩
        have : (0 : Int) ≤ (j : Int) ∧ (j : Int) ≤ (y : Int) := by omega
        simp only [Instr.sliceBound, asIntOf, Sem.run_bind, Sem.run_pure, Result.andThen_ok]
        rw [if_pos this]
        simp
      · cases h
/-- The bounds of a slice without a third one. -/
theorem run_bounds {m : Tl} {act : Act} {xs : List Operand} {lo hi : Option Operand} {lo' hi' : Option Opd} {len cap b h l : Nat} (isS : Bool) (hc : cOpt P hi = some hi') (hd : cOpt P lo = some lo') (hb : b ≤ cap) (h1 : bnd a len b hi' = some h) (h2 : bnd a 0 h lo' = some l)
    (hr : RdOk m a act xs) (hm : ∀ x, hi = some x → x ∈ xs) (hm' : ∀ x, lo = some x → x ∈ xs) (hg : ∀ g, g < P.globals.size → m g = some g) (w : World) :
    (Instr.sliceBounds isS len cap (lo.map act.eval) (hi.map act.eval) none).run P w = .ok (l, h, cap) w ∧ (hi = none → h = len) ∧ l ≤ h ∧ (hi.isSome → h ≤ b) := by
  have e1 := run_bnd hc h1 hr hm hg
  have e2 := run_bnd hd h2 hr hm' hg
  refine ⟨?_, ?_, ?_, ?_⟩
  · rcases e1 with ⟨rfl, rfl⟩ | ⟨x, k, rfl, hx, hle, hrun⟩ <;> rcases e2 with ⟨rfl, rfl⟩ | ⟨y, k2, rfl, hy, hle2, hrun2⟩
    · simp [Instr.sliceBounds]
    · simp [Instr.sliceBounds, hy, hrun2]
    · have hb : ∀ code, (Instr.sliceBound (.int k (h : Int)) cap code).run P w = .ok h w := fun code => by
        have : (0 : Int) ≤ (h : Int) ∧ (h : Int) ≤ (cap : Int) := by omega
        simp only [Instr.sliceBound, asIntOf, Sem.run_bind, Sem.run_pure, Result.andThen_ok]
        rw [if_pos this]
        simp
      simp [Instr.sliceBounds, hx, hb]
    · have hb : ∀ code, (Instr.sliceBound (.int k (h : Int)) cap code).run P w = .ok h w := fun code => by
        have : (0 : Int) ≤ (h : Int) ∧ (h : Int) ≤ (cap : Int) := by omega
        simp only [Instr.sliceBound, asIntOf, Sem.run_bind, Sem.run_pure, Result.andThen_ok]
        rw [if_pos this]
        simp
      simp [Instr.sliceBounds, hx, hy, hb, hrun2]
  · rintro rfl
    rcases e1 with ⟨_, rfl⟩ | ⟨x, k, hx, _⟩
    · rfl
    · cases hx
  · rcases e2 with ⟨_, rfl⟩ | ⟨y, k2, _, _, hle2, _⟩
    · omega
    · exact hle2
  · intro hs
    rcases e1 with ⟨rfl, _⟩ | ⟨x, k, _, _, hle, _⟩
    · cases hs
    · exact hle
end
end Go.Proofs.YtjckgagkkknmnaaDoor.Rk
/-
  Reckoning a program in the kernel: loads, stores, new blocks. Nothing of the program.
-/
namespace Go.Proofs.YtjckgagkkknmnaaDoor.Rk
set_option linter.unusedVariables false
set_option linter.unusedSimpArgs false
open Go
set_option maxHeartbeats 1000000

section
variable {w0 : World} {P : Program} {a : Tri AV} {s s' : St} {o : Oper} {v : AV} {m : Tl} {H : Hp} {W : World}
theorem cellsAt_look {n : Nat} {cs : List AV} {ex : Bool} (h : cellsAt n s = some (cs, ex, s')) : look n s = some (.cells cs ex, s') := by
  obtain ⟨r, hr, h_⟩ := ob_some h; clear h; have h := h_; clear h_
  split at h
  · rename_i cs' ex' s'' 
    cases h
    exact hr
  · cases h
theorem cells_obj {n : Nat} {cs : List AV} {ex : Bool} {T : List Nat} (h : cellsAt n s = some (cs, ex, s')) (ha : Agree H s T) (hT : n ∈ T) {G : Nat} (hg : Good w0 P G m H W) :
    ∃ b c el lo hi, m n = some b ∧ W.heap[b]? = some (.cells c el (lo, hi)) ∧ cs.length ≤ c.size ∧ (ex = true → c.size = cs.length) ∧ LR m cs (c.toList.take cs.length) ∧ (∀ i, i ≤ c.size → ¬ (lo ≤ i ∧ i < hi)) ∧ live (H n) = true ∧ c.size = m.c n := by
  obtain ⟨b, ob, h1, h2, h3, h4, h5⟩ := look_obj (cellsAt_look h) rfl ha hT hg
  cases h3
  rename_i c el lo hi hfr hlen hval hex
  refine ⟨b, c, el, lo, hi, h1, h2, hlen, hex, ⟨by simp [hlen], fun i x u hx hu => ?_⟩, hfr, by rw [h4]; rfl, h5 c el (lo, hi) rfl⟩
  obtain ⟨w, hw, hw'⟩ := hval i x hx
  rw [List.getElem?_take] at hu
  split at hu
  · rw [Array.getElem?_toList, hw] at hu; cases hu; exact hw'
  · cases hu
theorem cellsRd_look {n : Nat} {cs : List AV} (h : cellsRd n s = some (cs, s')) : ∃ o, look n s = some (o, s') ∧ ((∃ ex, o = .cells cs ex) ∨ o = .ro cs) := by
  obtain ⟨r, hr, h⟩ := ob_some h
  split at h
  · cases h
    exact ⟨_, hr, .inl ⟨_, rfl⟩⟩
  · cases h
    exact ⟨_, hr, .inr rfl⟩
  · cases h
theorem rd_obj {n : Nat} {cs : List AV} {T : List Nat} (h : cellsRd n s = some (cs, s')) (ha : Agree H s T) (hT : n ∈ T) {G : Nat} (hg : Good w0 P G m H W) :
    ∃ b c el fr, m n = some b ∧ W.heap[b]? = some (.cells c el fr) ∧ cs.length ≤ c.size ∧ LR m cs (c.toList.take cs.length) := by
  obtain ⟨o, hlk, ⟨ex, rfl⟩ | rfl⟩ := cellsRd_look h
  · have hc : cellsAt n s = some (cs, ex, s') := by
      unfold cellsAt
      rw [hlk]
      rfl
    obtain ⟨b, c, el, lo, hi, h1, h2, h3, _, h5, _⟩ := cells_obj hc ha hT hg
    exact ⟨b, c, el, (lo, hi), h1, h2, h3, h5⟩
  · exact look_ro hlk ha hT hg
theorem LR.sub {cs : List AV} {vs : List Value} {off n k : Nat} (h : LR m cs (vs.take k)) (hk : k = cs.length) (hle : off + n ≤ cs.length) : LR m ((cs.drop off).take n) ((vs.drop off).take n) := by
  have h1 := (h.drop off).take n
  rw [List.drop_take, List.take_take] at h1
  rw [show min n (k - off) = n by omega] at h1
  exact h1
theorem OpG.load1 {t : TypeId} {x : Operand} {x' : Opd} (ho : o.op = .load t x) (ht : aggT P t = some none) (hx : cO P x = some x') {cl yl : Nat → List AV → St → Option (AV × St)} (h : evOp cl yl a s (.load1 x') = some (v, s')) : OpG w0 P a s s' o v := by
  obtain ⟨p, hp, h_⟩ := ob_some h; clear h; have h := h_; clear h_
  split at h
  · rename_i n off
    obtain ⟨⟨cs, s1⟩, hr0, h_⟩ := ob_some h; clear h; have h := h_; clear h_
    obtain ⟨hv0, rfl⟩ := pureO_some h; clear h
    obtain ⟨ob0, hlk0, _⟩ := cellsRd_look hr0
    obtain ⟨hlt, _, hseg, _, hnx⟩ := look_spec hlk0
    refine ⟨[n], [], hseg, fun m H W act K hg ha hf hr hK => ?_⟩
    obtain ⟨b, c, el, fr, hb, hh, hlen, hl⟩ := rd_obj hr0 ha (by simp) hg
    have h1 := rdo_spec hx hp hr (by simp [ho, Op.operands]) hg.glob
    generalize hz : act.eval x = z at h1
    cases h1
    rename_i b' hb'
    rw [hb] at hb'; cases hb'
    obtain ⟨u, hu, hu'⟩ := hl.get hv0
    have hu2 : c[off]? = some u := by
      rw [List.getElem?_take] at hu
      split at hu
      · rw [← Array.getElem?_toList]; exact hu
      · cases hu
    have hrun : (execOp act.eval o).run P W = .ok (.value u) W := by
      simp [execOp, ho, hz, Instr.loadAt, Instr.sureAddr, loadVar, (run_agg ht W).1, cell_of hh, hu2]
    rw [hrun]
    exact hK m u W (Stp.looked hseg hnx hg) hu'
  · cases h
theorem OpG.loadN {t : TypeId} {x : Operand} {x' : Opd} {k : Nat} (ho : o.op = .load t x) (ht : aggT P t = some (some k)) (hx : cO P x = some x') {cl yl : Nat → List AV → St → Option (AV × St)} (h : evOp cl yl a s (.loadN k x') = some (v, s')) : OpG w0 P a s s' o v := by
  obtain ⟨p, hp, h_⟩ := ob_some h; clear h; have h := h_; clear h_
  split at h
  · rename_i n off
    obtain ⟨⟨cs, s1⟩, hr0, h_⟩ := ob_some h; clear h; have h := h_; clear h_
    obtain ⟨l, hl0, h_⟩ := ob_some h; clear h; have h := h_; clear h_
    cases h
    obtain ⟨hle, rfl⟩ := sub_some hl0
    obtain ⟨ob0, hlk0, _⟩ := cellsRd_look hr0
    obtain ⟨hlt, _, hseg, _, hnx⟩ := look_spec hlk0
    refine ⟨[n], [], hseg, fun m H W act K hg ha hf hr hK => ?_⟩
    obtain ⟨b, c, el, fr, hb, hh, hlen, hl⟩ := rd_obj hr0 ha (by simp) hg
    have h1 := rdo_spec hx hp hr (by simp [ho, Op.operands]) hg.glob
    generalize hz : act.eval x = z at h1
    cases h1
    rename_i b' hb'
    rw [hb] at hb'; cases hb'
    have hrun : (execOp act.eval o).run P W = .ok (.value (.agg ⟨(c.toList.drop off).take k⟩)) W := by
      simp [execOp, ho, hz, Instr.loadAt, Instr.sureAddr, loadVar, (run_agg ht W).1, run_sz ((run_agg ht W).2 k rfl), run_loadCells_rk hh (show off + k ≤ c.size by omega)]
    rw [hrun]
    have hs := hl.sub rfl hle
    exact hK m _ W (Stp.looked hseg hnx hg) (.agg hs.1 hs.2)
  · cases h
theorem oneCell_spec {x : AV} {u : Value} (h : oneCell x = true) (hv : VR m x u) : u.oneCell' = true := by
  cases hv <;> first | rfl | (simp [oneCell] at h)
theorem LR.one {cs : List AV} {vs : List Value} (h : LR m cs vs) (h1 : cs.all oneCell = true) : ∀ u ∈ vs, u.oneCell' = true := by
  intro u hu
  obtain ⟨i, hi, rfl⟩ := List.mem_iff_getElem.1 hu
  have hi' : i < cs.length := by rw [h.1]; exact hi
  exact oneCell_spec (List.all_eq_true.1 h1 _ (List.getElem_mem hi')) (h.2 i _ _ (List.getElem?_eq_getElem hi') (List.getElem?_eq_getElem hi))
theorem LR.ow {cs : List AV} {vs : List Value} : ∀ {ds : List AV} {us : List Value} (off : Nat), LR m ds us → LR m cs vs → LR m (ow ds cs off) (Proofs.YtjckgagkkknmnaaDoor.Rk.ow us vs off) := by
  intro ds
  induction ds generalizing cs vs with
  | nil => intro us off h hc; have := h.inv_nil; subst this; exact hc
  | cons d ds ih =>
    intro us off h hc
    obtain ⟨u, us', rfl, h1, h2⟩ := h.inv_cons
    exact ih (off + 1) h2 (hc.set off h1)
theorem ow_take {α : Type} : ∀ (vs cs : List α) (off k : Nat), off + vs.length ≤ k → (ow vs cs off).take k = ow vs (cs.take k) off
  | [], _, _, _, _ => rfl
  | v :: vs, cs, off, k, h => by
    simp only [List.length_cons] at h
    simp only [ow]
    rw [ow_take vs _ _ _ (by omega), List.take_set]
/-- The object behind a store. -/
theorem OR.stored {cs ds : List AV} {ex : Bool} {c : Array Value} {us : List Value} {el : TypeId} {lo hi off : Nat} (hlen : cs.length ≤ c.size) (hex : ex = true → c.size = cs.length) (hl : LR m cs (c.toList.take cs.length)) (hfr : ∀ i, i ≤ c.size → ¬ (lo ≤ i ∧ i < hi))
    (hd : LR m ds us) (hle : off + ds.length ≤ cs.length) : OR P m (.cells (ow ds cs off) ex) (.cells ⟨ow us c.toList off⟩ el (lo, hi)) := by
  have hsz : (Array.mk (ow us c.toList off)).size = c.size := by show (ow us c.toList off).length = _; rw [ow_length]; simp
  refine .cells (by rw [hsz, ow_length]; exact hlen) (fun h => by rw [hsz, ow_length]; exact hex h) (fun i x hx => ?_) (fun i hi => hfr i (by rw [← hsz]; exact hi))
  have h2 := LR.ow (m := m) off hd hl
  rw [← ow_take us c.toList off cs.length (by rw [← hd.1]; exact hle)] at h2
  obtain ⟨u, hu, hu'⟩ := h2.get hx
  rw [List.getElem?_take] at hu
  split at hu
  · exact ⟨u, by simpa using hu, hu'⟩
  · cases hu
theorem storeA_spec {n off : Nat} {ds : List AV} (h : storeA n off ds s = some s') : ∃ T, Seg s s' T [n] ∧ n ∈ T ∧ s'.nx = s.nx ∧ ∀ (m : Tl) (H : Hp) (W : World) (G : Nat) (us : List Value), Good w0 P G m H W → Agree H s T → LR m ds us →
    ∃ b W', m n = some b ∧ (storeCells ⟨b, off, none⟩ us).run P W = .ok () W' ∧ Stp w0 P G s s' [n] m m H W W' := by
  obtain ⟨⟨cs, ex, s1⟩, hr0, h_⟩ := ob_some h; clear h; have h := h_; clear h_
  obtain ⟨h1, h_⟩ := rec_some h; clear h; have h := h_; clear h_
  have hle := Nat.le_of_ble_eq_true h1
  obtain ⟨h2, h_⟩ := rec_some h; clear h; have h := h_; clear h_
  obtain ⟨hlt, _, hseg, hH, hnx⟩ := look_spec (cellsAt_look hr0)
  obtain ⟨hlt2, hseg2, hnx2, _⟩ := putO_spec h
  refine ⟨[n, n], hseg.trans hseg2, by simp, by omega, fun m H W G us hg ha hd => ?_⟩
  obtain ⟨b, c, el, lo, hi, hb, hh, hlen, hex, hl, hfr, hne, hsz⟩ := cells_obj hr0 ha (by simp) hg
  obtain ⟨W', r1, r2, r3, r4⟩ := run_storeCells_rk (P := P) (b := b) (off := off) us 0 W c hh (by rw [← hd.1]; omega) (hd.one h2) (fun i h => hfr i (Nat.le_of_lt h))
  refine ⟨b, W', hb, r1, ?_⟩
  have hs1 := Stp.looked hseg hnx hg
  have e : updH H s s1 [] = H := by
    funext k
    unfold updH
    rw [if_neg]
    rintro (h | h)
    · cases h
    · omega
  have hs2 := Stp.put (s := s1) h hg hne hb (W' := W') r3 (fun x hx => by
    cases hx
    exact ⟨_, r2, OR.stored hlen hex hl hfr hd hle, fun c' el' fr' e => by cases e; rw [← hsz]; show (ow us c.toList _).length = _; rw [ow_length]; simp⟩) r4
  exact Stp.trans (s1 := s1) (T1 := [n]) (T2 := [n]) (W1 := []) (W2 := [n]) hseg hseg2 hs1 (by rw [e]; exact hs2)
theorem OpG.store {t : TypeId} {x y : Operand} {x' y' : Opd} {k : Nat} (ho : o.op = .store t x y) (ht : szT P t = some k) (hx : cO P x = some x') (hy : cO P y = some y') {cl yl : Nat → List AV → St → Option (AV × St)} (h : evOp cl yl a s (.store k x' y') = some (v, s')) : OpG w0 P a s s' o v := by
  obtain ⟨p, hp, h_⟩ := ob_some h; clear h; have h := h_; clear h_
  obtain ⟨q, hq, h_⟩ := ob_some h; clear h; have h := h_; clear h_
  split at h
  · rename_i n off
    obtain ⟨hk, h_⟩ := rec_some h; clear h; have h := h_; clear h_
    have hk := Nat.eq_of_beq_eq_true hk
    obtain ⟨s1, hs, h_⟩ := ob_some h; clear h; have h := h_; clear h_
    cases h
    obtain ⟨T, hseg, hT, hnx, hst⟩ := storeA_spec (w0 := w0) (P := P) hs
    refine ⟨T, [n], hseg, fun m H W act K hg ha hf hr hK => ?_⟩
    have h1 := rdo_spec hx hp hr (by simp [ho, Op.operands]) hg.glob
    have h2 := rdo_spec hy hq hr (by simp [ho, Op.operands]) hg.glob
    generalize hz : act.eval x = z at h1
    cases h1
    rename_i b hb
    obtain ⟨b', W', hb', hrun, hstp⟩ := hst m H W _ _ hg ha h2.cells
    rw [hb] at hb'; cases hb'
    have hlen : (act.eval y).cells.size = k := by
      have := h2.cells.1
      rw [hk] at this
      simpa using this.symm
    have hrun : (execOp act.eval o).run P W = .ok .skip W' := by
      simp [execOp, ho, hz, Instr.storeAt, Instr.sureAddr, storeVar, run_sz ht, hlen, hrun]
    rw [hrun]
    exact hK m _ W' hstp (.tup rfl (fun i a v ha _ => by simp at ha))
  · cases h
/-- A new row of cells. -/
theorem alloc_row {cs : List AV} {n : Nat} (h : allocO (.cells cs true) s = some (n, s')) {el : TypeId} {c : Array Value} {G : Nat} (hg : Good w0 P G m H W) (hf : Fresh m s s') (hl : LR m cs c.toList) :
    (newRow el c).run P W = .ok ⟨W.heap.size, 0, none⟩ { W with heap := W.heap.push (.cells c el) } ∧ Stp w0 P G s s' [] m (mSet m n W.heap.size c.size) H W { W with heap := W.heap.push (.cells c el) } ∧ mSet m n W.heap.size c.size n = some W.heap.size := by
  obtain ⟨hn, hseg, hnx, _⟩ := allocO_spec h
  have hm0 : m n = none := hf n (by omega) (by omega)
  refine ⟨by simp [newRow], ?_, mSet_same _ _ _ _⟩
  refine Stp.alloc h hg hf (ob := .cells c el (0, 0)) c.size (by simp) (fun k hk => by simp [Array.getElem?_push, Nat.ne_of_lt hk]) ?_ (fun c' el' fr' e => by cases e; exact (mSet_c _ _ _ _).symm)
  refine .cells (by rw [hl.1]; simp) (fun _ => by rw [hl.1]; simp) (fun i x hx => ?_) (fun i _ h => by omega)
  obtain ⟨u, hu, hu'⟩ := (hl.mono (mSet_ext (b := W.heap.size) (C := c.size) hm0)).get hx
  exact ⟨u, by rw [← Array.getElem?_toList]; exact hu, hu'⟩
theorem zCells_spec {t : TypeId} {z : List AV} (h : zCells P t = some z) (m : Tl) : ∃ u, zeroT P t = some u ∧ LR m z u.cells.toList := by
  unfold zCells at h
  cases hz : zeroT P t with
  | none => rw [hz] at h; cases h
  | some u => rw [hz] at h; exact ⟨u, rfl, cSs_spec m h⟩
theorem OpG.alloc {t : TypeId} {z : List AV} (ho : o.op = .alloc t) (ht : zCells P t = some z) {cl yl : Nat → List AV → St → Option (AV × St)} (h : evOp cl yl a s (.alloc z) = some (v, s')) : OpG w0 P a s s' o v := by
  obtain ⟨⟨n, s1⟩, hr0, h_⟩ := ob_some h; clear h; have h := h_; clear h_
  cases h
  obtain ⟨hn, hseg, hnx, _⟩ := allocO_spec hr0
  refine ⟨[], [], hseg, fun m H W act K hg ha hf hr hK => ?_⟩
  obtain ⟨u, hu, hl⟩ := zCells_spec ht m
  obtain ⟨h1, h2, h3⟩ := alloc_row hr0 (el := t) hg hf hl
  have hrun : (execOp act.eval o).run P W = .ok (.value (.pointer (some ⟨W.heap.size, 0, none⟩))) { W with heap := W.heap.push (.cells u.cells t) } := by
    simp only [execOp, ho, Instr.alloc, Sem.run_bind, run_zero hu, Result.andThen_ok, newVar, h1, Sem.run_pure]
  rw [hrun]
  exact hK _ _ _ h2 (.ptr 0 h3)
theorem OpG.box {t : TypeId} {x : Operand} {x' : Opd} (ho : o.op = .box t x) (hx : cO P x = some x') {cl yl : Nat → List AV → St → Option (AV × St)} (h : evOp cl yl a s (.box x') = some (v, s')) : OpG w0 P a s s' o v := by
  obtain ⟨p, hp, h_⟩ := ob_some h; clear h; have h := h_; clear h_
  obtain ⟨⟨n, s1⟩, hr0, h_⟩ := ob_some h; clear h; have h := h_; clear h_
  cases h
  obtain ⟨hn, hseg, hnx, _⟩ := allocO_spec hr0
  refine ⟨[], [], hseg, fun m H W act K hg ha hf hr hK => ?_⟩
  have h0 := rdo_spec hx hp hr (by simp [ho, Op.operands]) hg.glob
  obtain ⟨h1, h2, h3⟩ := alloc_row hr0 (el := t) hg hf h0.cells
  have hrun : (execOp act.eval o).run P W = .ok (.value (.pointer (some ⟨W.heap.size, 0, none⟩))) { W with heap := W.heap.push (.cells (act.eval x).cells t) } := by
    simp only [execOp, ho, Instr.box, Sem.run_bind, newVar, h1, Result.andThen_ok, Sem.run_pure]
  rw [hrun]
  exact hK _ _ _ h2 (.ptr 0 h3)
/-! ### Literals -/
theorem zip_ow : ∀ (l : List Value) (k off : Nat) (cells : Array Value), (l.zipIdx k).foldl (fun cs (x : Value × Nat) => cs.setIfInBounds (off + x.2) x.1) cells = ⟨ow l cells.toList (off + k)⟩
  | [], _, _, _ => rfl
  | v :: l, k, off, cells => by
    rw [List.zipIdx_cons, List.foldl_cons, zip_ow l (k + 1) off]
    simp [ow, Nat.add_assoc]
theorem fill_spec {act : Act} {xs : List Operand} {place : Nat → Option (Nat × Nat)} (hr : RdOk m a act xs) (hg : ∀ g, g < P.globals.size → m g = some g) : ∀ {ps : List (Nat × Operand)} {l : List (Nat × Nat × Opd)} {cs cs' : List AV} {cells : Array Value},
    cParts P place ps = some l → fillA a l cs = some cs' → LR m cs cells.toList → (∀ p ∈ ps, p.2 ∈ xs) → ∃ c', Instr.fill place cells (ps.map fun p => (p.1, act.eval p.2)) = some c' ∧ LR m cs' c'.toList
  | [], l, cs, cs', cells, h, hf, hl, _ => by cases h; cases hf; exact ⟨cells, rfl, hl⟩
  | (i, x) :: ps, l, cs, cs', cells, h, hf, hl, hm => by
    unfold cParts at h
    split at h
    · rename_i p o l' h1 h2 h3
      cases h
      obtain ⟨u, hu, hf⟩ := ob_some hf
      obtain ⟨e1, hf⟩ := rec_some hf
      obtain ⟨e2, hf⟩ := rec_some hf
      have e1 := Nat.eq_of_beq_eq_true e1
      have e2 := Nat.le_of_ble_eq_true e2
      simp only at e1 e2
      have hv := rdo_spec h2 hu hr (hm (i, x) (by simp)) hg
      have hlen : (act.eval x).cells.size = p.2 := by
        have := hv.cells.1
        rw [e1] at this
        simpa using this.symm
      have hcl : cells.size = cs.length := by rw [hl.1]; simp
      obtain ⟨c', hc', hl'⟩ := fill_spec (place := place) hr hg (cells := ⟨ow (act.eval x).cells.toList cells.toList p.1⟩) h3 hf (LR.ow p.1 hv.cells hl) (fun q hq => hm q (List.mem_cons_of_mem _ hq))
      refine ⟨c', ?_, hl'⟩
      simp only [List.map_cons, Instr.fill, h1]
      rw [if_neg]
      · have hz := zip_ow (act.eval x).cells.toList 0 p.1 cells
        have he : (act.eval x).cells.zipIdx.foldl (fun cs (x : Value × Nat) => match x with | (c, j) => cs.setIfInBounds (p.1 + j) c) cells = ⟨ow (act.eval x).cells.toList cells.toList p.1⟩ := by
          rw [← Array.foldl_toList, Array.toList_zipIdx]
          exact hz
        rw [he]
        exact hc'
      · rw [hlen]
        simp
        omega
    · cases h
theorem run_places {w : World} : ∀ {fs : List Field} {pl : List (Nat × Nat)}, places P fs = some pl → (fs.mapM (m := Sem) fun f => do pure (f.offset, ← sizeOf f.type)).run P w = .ok pl w
  | [], pl, h => by cases h; rfl
  | f :: fs, pl, h => by
    unfold places at h
    split at h
    · rename_i n l h1 h2
      cases h
      rw [List.mapM_cons]
      simp only [Sem.run_bind, run_sz h1, Result.andThen_ok, Sem.run_pure, run_places h2]
    · cases h
theorem OpG.buildS {t : TypeId} {fs : Array Field} {ps : Array (Nat × Operand)} {z : List AV} {pl : List (Nat × Nat)} {l : List (Nat × Nat × Opd)} (ho : o.op = .build t ps) (hz : zCells P t = some z) (ht : P.underlying t = some (.struct fs)) (hp : places P fs.toList = some pl)
    (hl : cParts P (pl[·]?) ps.toList = some l) {cl yl : Nat → List AV → St → Option (AV × St)} (h : evOp cl yl a s (.build z l) = some (v, s')) : OpG w0 P a s s' o v := by
  obtain ⟨hv0, rfl⟩ := pureO_some h; clear h
  obtain ⟨cs, hcs, hv0⟩ := ob_some hv0
  cases hv0
  refine .pure fun m W act hg hr => ?_
  obtain ⟨u, hu, hlz⟩ := zCells_spec hz m
  obtain ⟨c', hc', hl'⟩ := fill_spec hr hg hl hcs hlz (fun q hq => by simp only [ho, Op.operands, List.mem_map]; exact ⟨q, hq, rfl⟩)
  refine ⟨.agg c', ?_, .agg (vs := c'.toList) hl'.1 hl'.2⟩
  have hpl : (fs.mapM (m := Sem) fun f => do Pure.pure (f.offset, ← sizeOf f.type)).run P W = .ok pl.toArray W := by
    rw [Array.mapM_eq_mapM_toList]
    simp only [Sem.run_map, run_places hp, Result.andThen_ok]
  have hparts : (ps.map fun (x : Nat × Operand) => match x with | (i, x) => (i, act.eval x)).toList = ps.toList.map fun p => (p.1, act.eval p.2) := by simp
  simp only [execOp, ho, Instr.build, Sem.run_bind, run_zero hu, Result.andThen_ok, run_und ht, hpl, hparts]
  have : (fun (x : Nat) => pl.toArray[x]?) = (fun (x : Nat) => pl[x]?) := by funext x; simp
  rw [this, hc']
  rfl
theorem OpG.buildA {t e : TypeId} {len n : Nat} {ps : Array (Nat × Operand)} {z : List AV} {l : List (Nat × Nat × Opd)} (ho : o.op = .build t ps) (hz : zCells P t = some z) (ht : P.underlying t = some (.array len e)) (hn : szT P e = some n)
    (hl : cParts P (fun i => some (i * n, n)) ps.toList = some l) {cl yl : Nat → List AV → St → Option (AV × St)} (h : evOp cl yl a s (.build z l) = some (v, s')) : OpG w0 P a s s' o v := by
  obtain ⟨hv0, rfl⟩ := pureO_some h; clear h
  obtain ⟨cs, hcs, hv0⟩ := ob_some hv0
  cases hv0
  refine .pure fun m W act hg hr => ?_
  obtain ⟨u, hu, hlz⟩ := zCells_spec hz m
  obtain ⟨c', hc', hl'⟩ := fill_spec hr hg hl hcs hlz (fun q hq => by simp only [ho, Op.operands, List.mem_map]; exact ⟨q, hq, rfl⟩)
  refine ⟨.agg c', ?_, .agg (vs := c'.toList) hl'.1 hl'.2⟩
  have hparts : (ps.map fun (x : Nat × Operand) => match x with | (i, x) => (i, act.eval x)).toList = ps.toList.map fun p => (p.1, act.eval p.2) := by simp
  simp only [execOp, ho, Instr.build, Sem.run_bind, run_zero hu, Result.andThen_ok, run_und ht, run_sz hn, hparts, hc', Sem.run_pure]
theorem flat_get {α : Type} (z : List α) (n : Nat) (hz : z.length = n) (h0 : 0 < n) : ∀ (len k : Nat), k < len * n → (List.replicate len z).flatten[k]? = z[k % n]?
  | 0, k, h => by omega
  | len + 1, k, h => by
    rw [List.replicate_succ, List.flatten_cons]
    by_cases hk : k < n
    · rw [List.getElem?_append_left (by omega), Nat.mod_eq_of_lt hk]
    · rw [List.getElem?_append_right (by omega), flat_get z n hz h0 len (k - z.length) (by rw [Nat.succ_mul] at h; omega)]
      rw [hz]
      congr 1
      conv => rhs; rw [show k = (k - n) + n by omega, Nat.add_mod_right]
theorem flat_len {α : Type} (z : List α) (len : Nat) : (List.replicate len z).flatten.length = len * z.length := by
  induction len with
  | zero => simp
  | succ len ih => simp [List.replicate_succ, ih, Nat.succ_mul]; omega
theorem LR.zeros {z : List AV} {zs : Array Value} {len : Nat} (h : LR m z zs.toList) (h0 : 0 < z.length) : LR m (List.replicate len z).flatten (((Array.range (len * z.length)).map (zs[· % zs.size]!)).toList) := by
  have hsz : zs.size = z.length := by rw [h.1]; simp
  refine ⟨by simp, fun i x u hx hu => ?_⟩
  have hi : i < len * z.length := by
    have := (List.getElem?_eq_some_iff.1 hx).1
    rw [flat_len] at this; exact this
  rw [flat_get z z.length rfl h0 len i hi] at hx
  rw [Array.getElem?_toList] at hu
  simp only [Array.getElem?_map, Array.getElem?_range] at hu
  rw [if_pos hi] at hu
  simp only [Option.map_some, Option.some.injEq] at hu
  have hm : i % z.length < zs.size := by rw [hsz]; exact Nat.mod_lt _ h0
  rw [hsz] at hu
  rw [getElem!_pos zs _ hm] at hu
  refine h.2 (i % z.length) x u hx ?_
  rw [Array.getElem?_toList, Array.getElem?_eq_getElem hm, hu]
theorem OpG.buildSl {t e : TypeId} {len n : Nat} {ps : Array (Nat × Operand)} {z : List AV} {l : List (Nat × Nat × Opd)} (ho : o.op = .buildSlice t len ps) (ht : P.underlying t = some (.slice e)) (hn : szT P e = some n) (h0 : len * n ≠ 0) (hbig : len * n ≤ 16777216) (hz : zCells P e = some z) (hzl : z.length = n)
    (hl : cParts P (fun i => some (i * n, n)) ps.toList = some l) {cl yl : Nat → List AV → St → Option (AV × St)} (h : evOp cl yl a s (.buildSl (List.replicate len z).flatten len l) = some (v, s')) : OpG w0 P a s s' o v := by
  obtain ⟨cs, hcs, h_⟩ := ob_some h; clear h; have h := h_; clear h_
  obtain ⟨⟨nm, s1⟩, hr0, h_⟩ := ob_some h; clear h; have h := h_; clear h_
  cases h
  obtain ⟨hnm, hseg, hnx, _⟩ := allocO_spec hr0
  refine ⟨[], [], hseg, fun m H W act K hg ha hf hr hK => ?_⟩
  obtain ⟨u, hu, hlz⟩ := zCells_spec hz m
  have hz0 : 0 < z.length := by rw [hzl]; exact Nat.pos_of_ne_zero (fun e => h0 (by rw [e]; simp))
  have hzz := LR.zeros (len := len) hlz hz0
  rw [hzl] at hzz
  obtain ⟨c', hc', hl'⟩ := fill_spec hr hg.glob hl hcs hzz (fun q hq => by simp only [ho, Op.operands, List.mem_map]; exact ⟨q, hq, rfl⟩)
  obtain ⟨h1, h2, h3⟩ := alloc_row hr0 (el := e) hg hf hl'
  have hparts : (ps.map fun (x : Nat × Operand) => match x with | (i, x) => (i, act.eval x)).toList = ps.toList.map fun p => (p.1, act.eval p.2) := by simp
  have hrun : (execOp act.eval o).run P W = .ok (.value (.slice (some ⟨W.heap.size, 0, none⟩) len len)) { W with heap := W.heap.push (.cells c' e) } := by
    simp only [execOp, ho, Instr.buildSlice, Sem.run_bind, run_und ht, run_sz hn, Result.andThen_ok]
    rw [if_neg (by omega)]
    simp only [h0, if_false, Sem.run_bind, run_zero hu, Result.andThen_ok, Sem.run_pure, hparts, hc', h1]
  rw [hrun]
  exact hK _ _ _ h2 (.sl 0 len len h3 (Nat.le_refl _))
theorem OpG.buildSl0 {t e : TypeId} {n : Nat} {ps : Array (Nat × Operand)} (ho : o.op = .buildSlice t 0 ps) (ht : P.underlying t = some (.slice e)) (hn : szT P e = some n) (hps : ps.toList = [])
    {cl yl : Nat → List AV → St → Option (AV × St)} (h : evOp cl yl a s (.buildSl [] 0 []) = some (v, s')) : OpG w0 P a s s' o v := by
  have h : ob (allocO (.cells [] true) s) (fun r => some (.sl r.1 0 0 0, r.2)) = some (v, s') := h
  obtain ⟨⟨nm, s1⟩, hr0, h_⟩ := ob_some h; clear h; have h := h_; clear h_
  cases h
  obtain ⟨hnm, hseg, hnx, _⟩ := allocO_spec hr0
  refine ⟨[], [], hseg, fun m H W act K hg ha hf hr hK => ?_⟩
  have hps' : ps = #[] := by apply Array.ext'; simpa using hps
  obtain ⟨h1, h2, h3⟩ := alloc_row hr0 (el := e) (c := #[]) hg hf (LR.nil m)
  have hrun : (execOp act.eval o).run P W = .ok (.value (.slice (some ⟨W.heap.size, 0, none⟩) 0 0)) { W with heap := W.heap.push (.cells #[] e) } := by
    simp only [execOp, ho, Instr.buildSlice, Sem.run_bind, run_und ht, run_sz hn, Result.andThen_ok, hps']
    rw [if_neg (by omega)]
    simp only [Nat.zero_mul, if_true, Sem.run_bind, Result.andThen_ok, Sem.run_pure]
    have : Instr.fill (fun i => some (i * n, n)) ((Array.range 0).map ((#[] : Array Value)[· % (#[] : Array Value).size]!)) ((#[] : Array (Nat × Operand)).map fun (x : Nat × Operand) => match x with | (i, x) => (i, act.eval x)).toList = some #[] := by simp [Instr.fill]
    rw [this]
    simp only [Sem.run_bind, h1, Result.andThen_ok, Sem.run_pure]
  rw [hrun]
  exact hK _ _ _ h2 (.sl 0 0 0 h3 (Nat.le_refl _))
end
end Go.Proofs.YtjckgagkkknmnaaDoor.Rk
/-
  Reckoning a program in the kernel: slices, append, copy, make. Nothing of the program.
-/
namespace Go.Proofs.YtjckgagkkknmnaaDoor.Rk
set_option linter.unusedVariables false
set_option linter.unusedSimpArgs false
open Go
set_option maxHeartbeats 1000000

section
variable {w0 : World} {P : Program} {a : Tri AV} {s s' : St} {o : Oper} {v : AV} {m : Tl} {H : Hp} {W : World}
theorem OpG.slcS {t : TypeId} {x : Operand} {lo hi : Option Operand} {x' : Opd} {lo' hi' : Option Opd} (ho : o.op = .slice t x lo hi none) (ht : P.underlying t = some .string) (hx : cO P x = some x') (hl : cOpt P lo = some lo') (hh : cOpt P hi = some hi')
    {cl yl : Nat → List AV → St → Option (AV × St)} (h : evOp cl yl a s (.slcS x' lo' hi') = some (v, s')) : OpG w0 P a s s' o v := by
  obtain ⟨p, hp, h_⟩ := ob_some h; clear h; have h := h_; clear h_
  split at h
  · rename_i l
    obtain ⟨hb, h1, h_⟩ := ob_some h; clear h; have h := h_; clear h_
    obtain ⟨lb, h2, h_⟩ := ob_some h; clear h; have h := h_; clear h_
    cases h
    refine .pure fun m W act hg hr => ?_
    have hv := rdo_spec hx hp hr (by simp [ho, Op.operands]) hg
    generalize hz : act.eval x = z at hv
    cases hv
    obtain ⟨e1, e2, e3, e4⟩ := run_bounds false hh hl (Nat.le_refl _) h1 h2 hr (by rintro y rfl; simp [ho, Op.operands]) (by rintro y rfl; simp [ho, Op.operands]) hg W
    refine ⟨.string ⟨⟨(l.drop lb).take (hb - lb)⟩⟩, ?_, .str _⟩
    have hs : (ByteArray.mk ⟨l⟩).size = l.length := rfl
    simp only [execOp, ho, hz, Instr.sliceAt, Instr.slice, Sem.run_bind, run_und ht, Result.andThen_ok, Option.map_none, Option.isSome_none, Bool.false_eq_true, if_false, Sem.run_pure, hs, e1]
    congr 3
    have : (ByteArray.mk ⟨l⟩).extract lb hb = ⟨(Array.mk l).extract lb hb⟩ := by
      apply ByteArray.ext
      simp [ByteArray.data_extract]
    rw [this]
    congr 1
    apply Array.ext'
    simp
  · cases h
theorem OpG.slc {t e : TypeId} {n : Nat} {x : Operand} {lo hi : Option Operand} {x' : Opd} {lo' hi' : Option Opd} (ho : o.op = .slice t x lo hi none) (ht : P.underlying t = some (.slice e)) (hn : szT P e = some n) (hx : cO P x = some x') (hl : cOpt P lo = some lo') (hh : cOpt P hi = some hi')
    {cl yl : Nat → List AV → St → Option (AV × St)} (h : evOp cl yl a s (.slc n x' lo' hi') = some (v, s')) : OpG w0 P a s s' o v := by
  obtain ⟨p, hp, h_⟩ := ob_some h; clear h; have h := h_; clear h_
  have ml : ∀ y, lo = some y → y ∈ o.op.operands.toList := by rintro y rfl; simp [ho, Op.operands]
  have mh : ∀ y, hi = some y → y ∈ o.op.operands.toList := by rintro y rfl; simp [ho, Op.operands]
  split at h
  · obtain ⟨hb, h1, h_⟩ := ob_some h; clear h; have h := h_; clear h_
    obtain ⟨lb, h2, h_⟩ := ob_some h; clear h; have h := h_; clear h_
    cases h
    refine .pure fun m W act hg hr => ?_
    have hv := rdo_spec hx hp hr (by simp [ho, Op.operands]) hg
    generalize hz : act.eval x = z at hv
    cases hv
    obtain ⟨e1, e2, e3, e4⟩ := run_bounds (cap := 0) true hh hl (Nat.le_refl _) h1 h2 hr mh ml hg W
    have hb0 : hb = 0 := by
      cases hi with
      | none => exact e2 rfl
      | some y => have := e4 rfl; omega
    have lb0 : lb = 0 := by omega
    subst hb0; subst lb0
    refine ⟨.slice none 0 0, ?_, .nils⟩
    simp only [execOp, ho, hz, Instr.sliceAt, Instr.slice, Sem.run_bind, run_und ht, Result.andThen_ok, Option.map_none, e1, run_sz hn, Sem.run_pure, if_true, Nat.sub_self]
  · rename_i b off len cap
    obtain ⟨hb, h1, h_⟩ := ob_some h; clear h; have h := h_; clear h_
    obtain ⟨lb, h2, h_⟩ := ob_some h; clear h; have h := h_; clear h_
    simp only [fN_eq] at h
    cases h
    refine .pure fun m W act hg hr => ?_
    have hv := rdo_spec hx hp hr (by simp [ho, Op.operands]) hg
    generalize hz : act.eval x = z at hv
    cases hv
    rename_i b' hm hle
    obtain ⟨e1, e2, e3, e4⟩ := run_bounds (cap := cap) true hh hl (Nat.le_refl _) h1 h2 hr mh ml hg W
    have hbc : hb ≤ cap := by
      cases hi with
      | none => rw [e2 rfl]; exact hle
      | some y => exact e4 rfl
    have hrun : (execOp act.eval o).run P W = .ok (.value (.slice (if cap = lb then some ⟨b', off, none⟩ else some ⟨b', off + lb * n, none⟩) (hb - lb) (cap - lb))) W := by
      simp only [execOp, ho, hz, Instr.sliceAt, Instr.slice, Sem.run_bind, run_und ht, Result.andThen_ok, Option.map_none, e1, run_sz hn, Sem.run_pure]
      by_cases hcl : cap = lb
      · rw [if_pos hcl, if_pos hcl]
      · rw [if_neg hcl, if_neg hcl]
        simp [addr_add]
    refine ⟨_, hrun, ?_⟩
    by_cases hcl : cap = lb
    · rw [if_pos hcl]
      have : Nat.beq cap lb = true := by rw [hcl]; exact Nat.beq_refl lb
      rw [this]
      exact .sl off (hb - lb) (cap - lb) hm (by omega)
    · rw [if_neg hcl]
      have : Nat.beq cap lb = false := by
        cases hq : Nat.beq cap lb with
        | false => rfl
        | true => exact absurd (Nat.eq_of_beq_eq_true hq) hcl
      rw [this]
      exact .sl _ _ _ hm (by omega)
  · rename_i b off len z0
    obtain ⟨hb, h1, h_⟩ := ob_some h; clear h; have h := h_; clear h_
    obtain ⟨lb, h2, h_⟩ := ob_some h; clear h; have h := h_; clear h_
    simp only [fN_eq] at h
    obtain ⟨hz0, h_⟩ := rec_some h; clear h; have h := h_; clear h_
    have hz0 := Nat.eq_of_beq_eq_true hz0
    have key : s' = s ∧ v = .slu b (off + lb * n) (hb - lb) z0 ∧ (lb < hb ∨ lb = 0) := by
      rcases rec_two h with ⟨_, h⟩ | ⟨q, h⟩
      · rcases rec_two h with ⟨_, h⟩ | ⟨q2, h⟩
        · cases h
        · cases h; exact ⟨rfl, rfl, .inr (Nat.eq_of_beq_eq_true q2)⟩
      · cases h; exact ⟨rfl, rfl, .inl (Nat.le_of_ble_eq_true q)⟩
    obtain ⟨rfl, rfl, hor⟩ := key
    clear h
    refine .pure fun m W act hg hr => ?_
    have hv := rdo_spec hx hp hr (by simp [ho, Op.operands]) hg
    generalize hz : act.eval x = z at hv
    cases hv
    rename_i b' cap hB hm hle hC
    obtain ⟨e1, e2, e3, e4⟩ := run_bounds (cap := cap) true hh hl hle h1 h2 hr mh ml hg W
    have hbc : hb ≤ len := by
      cases hi with
      | none => rw [e2 rfl]; exact Nat.le_refl _
      | some y => exact e4 rfl
    have hrun : (execOp act.eval o).run P W = .ok (.value (.slice (some ⟨b', off + lb * n, none⟩) (hb - lb) (cap - lb))) W := by
      simp only [execOp, ho, hz, Instr.sliceAt, Instr.slice, Sem.run_bind, run_und ht, Result.andThen_ok, Option.map_none, e1, run_sz hn, Sem.run_pure]
      by_cases hcl : cap = lb
      · have : lb = 0 := by omega
        subst this
        rw [if_pos hcl]
        simp
      · rw [if_neg hcl]
        simp [addr_add]
    refine ⟨_, hrun, .slu _ _ _ _ hm (by omega) ?_ (by omega)⟩
    rw [hz0] at hC ⊢
    have hmul : lb * n + (cap - lb) * n ≤ cap * n := by
      rw [← Nat.add_mul]
      exact Nat.mul_le_mul_right _ (by omega)
    omega
  · cases h
theorem OpG.slcA {t e : TypeId} {n k : Nat} {x : Operand} {lo hi : Option Operand} {x' : Opd} {lo' hi' : Option Opd} (ho : o.op = .slice t x lo hi none) (ht : P.underlying t = some (.array n e)) (hn : szT P e = some k) (hx : cO P x = some x') (hl : cOpt P lo = some lo') (hh : cOpt P hi = some hi')
    {cl yl : Nat → List AV → St → Option (AV × St)} (h : evOp cl yl a s (.slcA n k x' lo' hi') = some (v, s')) : OpG w0 P a s s' o v := by
  obtain ⟨p, hp, h_⟩ := ob_some h; clear h; have h := h_; clear h_
  have ml : ∀ y, lo = some y → y ∈ o.op.operands.toList := by rintro y rfl; simp [ho, Op.operands]
  have mh : ∀ y, hi = some y → y ∈ o.op.operands.toList := by rintro y rfl; simp [ho, Op.operands]
  split at h
  · rename_i b off
    obtain ⟨hb, h1, h_⟩ := ob_some h; clear h; have h := h_; clear h_
    obtain ⟨lb, h2, h_⟩ := ob_some h; clear h; have h := h_; clear h_
    simp only [fN_eq] at h
    cases h
    refine .pure fun m W act hg hr => ?_
    have hv := rdo_spec hx hp hr (by simp [ho, Op.operands]) hg
    generalize hz : act.eval x = z at hv
    cases hv
    rename_i b' hm
    obtain ⟨e1, e2, e3, e4⟩ := run_bounds (cap := n) false hh hl (Nat.le_refl _) h1 h2 hr mh ml hg W
    have hbc : hb ≤ n := by
      cases hi with
      | none => rw [e2 rfl]; exact Nat.le_refl _
      | some y => exact e4 rfl
    have hrun : (execOp act.eval o).run P W = .ok (.value (.slice (if n = lb then some ⟨b', off, none⟩ else some ⟨b', off + lb * k, none⟩) (hb - lb) (n - lb))) W := by
      simp only [execOp, ho, hz, Instr.sliceAt, Instr.sureAddr, Sem.run_bind, run_und ht, Result.andThen_ok, Option.map_none, e1, run_sz hn, Sem.run_pure]
      by_cases hcl : n = lb
      · rw [if_pos hcl, if_pos hcl]
      · rw [if_neg hcl, if_neg hcl]
        simp [addr_add]
    refine ⟨_, hrun, ?_⟩
    by_cases hcl : n = lb
    · rw [if_pos hcl]
      have : Nat.beq n lb = true := by rw [hcl]; exact Nat.beq_refl lb
      rw [this]
      exact .sl off (hb - lb) (n - lb) hm (by omega)
    · rw [if_neg hcl]
      have : Nat.beq n lb = false := by
        cases hq : Nat.beq n lb with
        | false => rfl
        | true => exact absurd (Nat.eq_of_beq_eq_true hq) hcl
      rw [this]
      exact .sl _ _ _ hm (by omega)
  · cases h
theorem OpG.slc3 {t e : TypeId} {n : Nat} {x hi mx : Operand} {lo : Option Operand} {x' hi' mx' : Opd} {lo' : Option Opd} (ho : o.op = .slice t x lo (some hi) (some mx)) (ht : P.underlying t = some (.slice e)) (hn : szT P e = some n) (hx : cO P x = some x') (hl : cOpt P lo = some lo') (hh : cO P hi = some hi') (hm' : cO P mx = some mx')
    {cl yl : Nat → List AV → St → Option (AV × St)} (h : evOp cl yl a s (.slc3 n x' lo' (some hi') (some mx')) = some (v, s')) : OpG w0 P a s s' o v := by
  obtain ⟨p, hp, h_⟩ := ob_some h; clear h; have h := h_; clear h_
  have ml : ∀ y, lo = some y → y ∈ o.op.operands.toList := by rintro y rfl; simp [ho, Op.operands]
  have mh : ∀ y, some hi = some y → y ∈ o.op.operands.toList := by rintro y hy; cases hy; simp [ho, Op.operands]
  have mm : ∀ y, some mx = some y → y ∈ o.op.operands.toList := by rintro y hy; cases hy; simp [ho, Op.operands]
  have ch : cOpt P (some hi) = some (some hi') := by simp [cOpt, hh]
  have cm : cOpt P (some mx) = some (some mx') := by simp [cOpt, hm']
  have key : ∀ (m : Tl) {cap d y : Nat} {act : Act} {mb hb lb : Nat}, RdOk m a act o.op.operands.toList → (∀ g, g < P.globals.size → m g = some g) → bnd a d y (some mx') = some mb → bnd a 0 mb (some hi') = some hb → bnd a 0 hb lo' = some lb → y ≤ cap → ∀ len w,
      (Instr.sliceBounds true len cap (lo.map act.eval) (some (act.eval hi)) (some (act.eval mx))).run P w = .ok (lb, hb, mb) w ∧ lb ≤ hb ∧ hb ≤ mb ∧ mb ≤ y := by
    intro m cap d y act mb hb lb hr hg q1 q2 q3 hyc len w
    rcases run_bnd cm q1 hr mm hg with ⟨hno, _⟩ | ⟨xm, km, hxm, hem, hlem, _⟩
    · cases hno
    · cases hxm
      rcases run_bnd ch q2 hr mh hg with ⟨hno, _⟩ | ⟨xh, kh, hxh, heh, hleh, hrunh⟩
      · cases hno
      · cases hxh
        have hmr : ∀ code, (Instr.sliceBound (.int km (mb : Int)) cap code).run P w = .ok mb w := fun code => by
          have : (0 : Int) ≤ (mb : Int) ∧ (mb : Int) ≤ (cap : Int) := by omega
          simp only [Instr.sliceBound, asIntOf, Sem.run_bind, Sem.run_pure, Result.andThen_ok]
          rw [if_pos this]
          simp
        rcases run_bnd hl q3 hr ml hg with ⟨rfl, rfl⟩ | ⟨xl, kl, rfl, hel, hlel, hrunl⟩
        · exact ⟨by simp [Instr.sliceBounds, hem, heh, hmr, hrunh], by omega, hleh, hlem⟩
        · exact ⟨by simp [Instr.sliceBounds, hem, heh, hel, hmr, hrunh, hrunl], hlel, hleh, hlem⟩
  split at h
  · obtain ⟨mb, h0, h_⟩ := ob_some h; clear h; have h := h_; clear h_
    obtain ⟨hb, h1, h_⟩ := ob_some h; clear h; have h := h_; clear h_
    obtain ⟨lb, h2, h_⟩ := ob_some h; clear h; have h := h_; clear h_
    cases h
    refine .pure fun m W act hg hr => ?_
    have hv := rdo_spec hx hp hr (by simp [ho, Op.operands]) hg
    generalize hz : act.eval x = z at hv
    cases hv
    obtain ⟨e1, e2, e3, e4⟩ := key m hr hg h0 h1 h2 (Nat.le_refl 0) 0 W
    have : mb = 0 := by omega
    have : hb = 0 := by omega
    have : lb = 0 := by omega
    subst mb; subst hb; subst lb
    refine ⟨.slice none 0 0, ?_, .nils⟩
    simp only [execOp, ho, hz, Instr.sliceAt, Instr.slice, Sem.run_bind, run_und ht, Result.andThen_ok, Option.map_some, e1, run_sz hn, Sem.run_pure, if_true, Nat.sub_self]
  all_goals first
    | (cases h; done)
    | (rename_i b off len cap
       obtain ⟨mb, h0, h_⟩ := ob_some h; clear h; have h := h_; clear h_
       obtain ⟨hb, h1, h_⟩ := ob_some h; clear h; have h := h_; clear h_
       obtain ⟨lb, h2, h_⟩ := ob_some h; clear h; have h := h_; clear h_
       simp only [fN_eq] at h
       cases h
       refine .pure fun m W act hg hr => ?_
       have hv := rdo_spec hx hp hr (by simp [ho, Op.operands]) hg
       generalize hz : act.eval x = z at hv
       obtain ⟨b', c, hm, rfl, hle⟩ := hv.slice (by first | exact .inl ⟨_, rfl⟩ | exact .inr ⟨_, rfl⟩)
       have hkey : (Instr.sliceBounds true len c (lo.map act.eval) (some (act.eval hi)) (some (act.eval mx))).run P W = .ok (lb, hb, mb) W ∧ lb ≤ hb ∧ hb ≤ mb := by
         first
           | (cases hv; obtain ⟨e1, e2, e3, e4⟩ := key m hr hg h0 h1 h2 (Nat.le_refl _) len W; exact ⟨e1, e2, e3⟩)
           | (obtain ⟨e1, e2, e3, e4⟩ := key m hr hg h0 h1 h2 hle len W; exact ⟨e1, e2, e3⟩)
       obtain ⟨e1, e2, e3⟩ := hkey
       have hrun : (execOp act.eval o).run P W = .ok (.value (.slice (if mb = lb then some ⟨b', off, none⟩ else some ⟨b', off + lb * n, none⟩) (hb - lb) (mb - lb))) W := by
         simp only [execOp, ho, hz, Instr.sliceAt, Instr.slice, Sem.run_bind, run_und ht, Result.andThen_ok, Option.map_some, e1, run_sz hn, Sem.run_pure]
         by_cases hcl : mb = lb
         · rw [if_pos hcl, if_pos hcl]
         · rw [if_neg hcl, if_neg hcl]
           simp [addr_add]
       refine ⟨_, hrun, ?_⟩
       by_cases hcl : mb = lb
       · rw [if_pos hcl]
         have : Nat.beq mb lb = true := by rw [hcl]; exact Nat.beq_refl lb
         rw [this]
         exact .sl off (hb - lb) (mb - lb) hm (by omega)
       · rw [if_neg hcl]
         have : Nat.beq mb lb = false := by
           cases hq : Nat.beq mb lb with
           | false => rfl
           | true => exact absurd (Nat.eq_of_beq_eq_true hq) hcl
         rw [this]
         exact .sl _ _ _ hm (by omega))
theorem OpG.len {b : Bool} {t : TypeId} {x : Operand} {x' : Opd} (ho : o.op = .call { callee := .builtin .len, args := #[x], argTypes := #[t] }) (ht : (b = true ∧ P.underlying t = some .string) ∨ (b = false ∧ ∃ e, P.underlying t = some (.slice e))) (hx : cO P x = some x')
    {cl yl : Nat → List AV → St → Option (AV × St)} (h : evOp cl yl a s (.len b x') = some (v, s')) : OpG w0 P a s s' o v := by
  obtain ⟨p, hp, h_⟩ := ob_some h; clear h; have h := h_; clear h_
  obtain ⟨n, hn, h_⟩ := ob_some h; clear h; have h := h_; clear h_
  rw [fN_eq] at h
  cases h
  have hk : (b = true ∧ ∃ l, p = .str l) ∨ (b = false ∧ ¬ ∃ l, p = .str l) ∧ lenA p = some n := by
    cases b
    · refine .inr ⟨⟨rfl, ?_⟩, ?_⟩ <;> cases p <;> simp_all [lenB, lenA]
    · refine .inl ⟨rfl, ?_⟩
      cases p <;> simp_all [lenB]
  have hl : lenA p = some n := by
    rcases hk with ⟨rfl, l, rfl⟩ | ⟨_, hl⟩
    · simpa [lenB, lenA] using hn
    · exact hl
  refine .pure fun m W act hg hr => ?_
  have hv := rdo_spec hx hp hr (by simp [ho, Op.operands, Call.operands]) hg
  have hrun := lenA_run (P := P) (t := t) (ty := o.type) hl hv (by
    rcases ht with ⟨rfl, ht⟩ | ⟨rfl, ht⟩
    · rcases hk with ⟨_, hk⟩ | ⟨⟨hk, _⟩, _⟩
      · exact .inl ⟨ht, hk⟩
      · cases hk
    · rcases hk with ⟨hk, _⟩ | ⟨⟨_, hk⟩, _⟩
      · cases hk
      · exact .inr ⟨ht, hk⟩) W
  exact ⟨.int .i64 n, by simp [execOp, ho, resolve, invoke, builtin, hrun], .int _ _⟩
end
end Go.Proofs.YtjckgagkkknmnaaDoor.Rk
/-
  Reckoning a program in the kernel: append, copy, make, conversions. Nothing of the program.
-/
namespace Go.Proofs.YtjckgagkkknmnaaDoor.Rk
set_option linter.unusedVariables false
set_option linter.unusedSimpArgs false
open Go
set_option maxHeartbeats 1000000
set_option linter.unusedSimpArgs false

section
variable {w0 : World} {P : Program} {a : Tri AV} {s s' : St} {o : Oper} {v : AV} {m : Tl} {H : Hp} {W : World}
theorem run_lenOf {x : AV} {n : Nat} {z : Value} (h : lenA x = some n) (hv : VR m x z) (w : World) : (Builtin.lenOf z).run P w = .ok n w := by
  cases x <;> simp only [lenA] at h <;> cases h <;> cases hv <;> rfl
theorem rowA_spec {b off k : Nat} {new : List AV} (h : rowA b off k s = some (new, s')) : Seg s s' [b] [] ∧ s'.nx = s.nx ∧ b < s.nx ∧ ∀ (m : Tl) (H : Hp) (W : World) (G : Nat) (T : List Nat), Good w0 P G m H W → Agree H s T → b ∈ T →
    ∃ c arr, m b = some c ∧ (∀ w : World, w.heap = W.heap → (loadCells ⟨c, off, none⟩ k).run P w = .ok arr w) ∧ LR m new arr.toList := by
  obtain ⟨⟨cs, s1⟩, hr0, h_⟩ := ob_some h; clear h; have h := h_; clear h_
  obtain ⟨l, hl0, h_⟩ := ob_some h; clear h; have h := h_; clear h_
  cases h
  obtain ⟨hle, rfl⟩ := sub_some hl0
  obtain ⟨ob0, hlk0, _⟩ := cellsRd_look hr0
  obtain ⟨hlt, _, hseg, _, hnx⟩ := look_spec hlk0
  refine ⟨hseg, hnx, hlt, fun m H W G T hg ha hT => ?_⟩
  obtain ⟨c, ar, el, fr, hb, hh, hlen, hl⟩ := rd_obj hr0 ha hT hg
  exact ⟨c, _, hb, fun w hw => run_loadCells_rk (by rw [hw]; exact hh) (show off + k ≤ ar.size by omega), hl.sub rfl hle⟩
theorem firstA_spec {size n : Nat} {x : AV} {new : List AV} (h : firstA size n x s = some (new, s')) : ∃ T, Seg s s' T [] ∧ s'.nx = s.nx ∧ ∀ (m : Tl) (H : Hp) (W : World) (G : Nat) (T' : List Nat) (z : Value), Good w0 P G m H W → Agree H s T' → (∀ k ∈ T, k ∈ T') → VR m x z →
    ∃ arr, (∀ w : World, w.heap = W.heap → (Builtin.firstCells size n z).run P w = .ok arr w) ∧ LR m new arr.toList := by
  cases x <;> simp only [firstA] at h <;> (try (cases h; done))
  · rename_i l
    cases h
    refine ⟨[], Seg.refl s, rfl, fun m H W G T' z hg ha hT hv => ?_⟩
    cases hv
    refine ⟨_, fun w hw => rfl, ?_⟩
    have : (((ByteArray.mk ⟨l⟩).extract 0 n).data.map fun b => Value.int .u8 b.toNat).toList = (l.take n).map fun b => Value.int .u8 b.toNat := by
      have : ((ByteArray.mk ⟨l⟩).extract 0 n).data = (Array.mk l).extract 0 n := by simp [ByteArray.data_extract]
      rw [this]
      simp
    rw [this]
    refine ⟨by simp, fun i x u hx hu => ?_⟩
    simp only [List.getElem?_map] at hx hu
    cases hb : (l.take n)[i]? with
    | none => rw [hb] at hx; cases hx
    | some b => rw [hb] at hx hu; cases hx; cases hu; exact .int _ _
  · cases h
    refine ⟨[], Seg.refl s, rfl, fun m H W G T' z hg ha hT hv => ?_⟩
    cases hv
    exact ⟨#[], fun w hw => rfl, LR.nil m⟩
  · obtain ⟨hseg, hnx, _, hrow⟩ := rowA_spec (w0 := w0) (P := P) h
    refine ⟨_, hseg, hnx, fun m H W G T' z hg ha hT hv => ?_⟩
    obtain ⟨b, c, hm, rfl, _⟩ := hv.slice (.inl ⟨_, rfl⟩)
    obtain ⟨c', arr, hc, hrun, hl⟩ := hrow m H W G T' hg ha (hT _ (by simp))
    rw [hm] at hc; cases hc
    exact ⟨arr, hrun, hl⟩
  · obtain ⟨hseg, hnx, _, hrow⟩ := rowA_spec (w0 := w0) (P := P) h
    refine ⟨_, hseg, hnx, fun m H W G T' z hg ha hT hv => ?_⟩
    obtain ⟨b, c, hm, rfl, _⟩ := hv.slice (.inr ⟨_, rfl⟩)
    obtain ⟨c', arr, hc, hrun, hl⟩ := hrow m H W G T' hg ha (hT _ (by simp))
    rw [hm] at hc; cases hc
    exact ⟨arr, hrun, hl⟩
/-- append where there is room. -/
theorem run_append_in {t u ty e : TypeId} {d : TypeDesc} {i : TypeInfo} {base : Option Addr} {sLen sCap n : Nat} {Y : Value} {arr : Array Value} {W' : World} (ht : P.underlying t = some (.slice e)) (hu : P.underlying u = some d) (hd : ∀ k, d ≠ .int k) (hi : P.info? e = some i)
    (hn : (Builtin.lenOf Y).run P W = .ok n W) (hle : sLen + n ≤ sCap) (hf : (Builtin.firstCells i.size n Y).run P W = .ok arr W)
    (hst : ∀ b, base = some b → (storeCells (b.add (sLen * i.size)) arr.toList).run P W = .ok () W') (h0 : base = none → W' = W) :
    (Builtin.append_ #[t, u] ty #[.slice base sLen sCap, Y]).run P W = .ok (.slice base (sLen + n) sCap) W' := by
  have hz : (match d with | .int _ => true | _ => false) = false := by cases d <;> first | rfl | exact absurd rfl (hd _)
  have hsz : szT P e = some i.size := by simp [szT, hi]
  unfold Builtin.append_
  simp only [List.getElem?_toArray, List.getElem?_cons_zero, List.getElem?_cons_succ, Sem.run_bind, run_und ht, run_und hu, run_sz hsz, Result.andThen_ok, Sem.run_pure, hz, Bool.false_eq_true, if_false, hn, Bool.not_false, if_true]
  rw [if_pos hle]
  cases base with
  | none =>
    have := h0 rfl
    subst this
    simp only [Sem.run_bind, hf, Result.andThen_ok, Sem.run_pure]
  | some b =>
    simp only [Sem.run_bind, hf, Result.andThen_ok, Sem.run_pure, hst b rfl]
/-- append where there is no room: a new row. -/
theorem run_append_new {t u ty e : TypeId} {d : TypeDesc} {i : TypeInfo} {z : Value} {base : Option Addr} {sLen sCap n : Nat} {Y : Value} {old new : Array Value} (ht : P.underlying t = some (.slice e)) (hu : P.underlying u = some d) (hd : ∀ k, d ≠ .int k) (hi : P.info? e = some i)
    (hz : zeroT P e = some z) (hzs : z.cells.size = i.size) (hb0 : i.bytes ≠ 0) (hb1 : i.bytes ≤ 1048576) (hsm : sLen + n ≤ 1048576)
    (hn : (Builtin.lenOf Y).run P W = .ok n W) (hgt : sCap < sLen + n) (hold : ∀ w, w.heap = W.heap → (Builtin.firstCells i.size sLen (.slice base sLen sCap)).run P w = .ok old w) (hnew : ∀ w, w.heap = W.heap → (Builtin.firstCells i.size n Y).run P w = .ok new w) :
    ∃ newCap rest W', (sLen + n ≤ newCap ∧ newCap ≤ 9223372036854775807) ∧ rest.size = (newCap - (sLen + n)) * i.size ∧ W'.heap = W.heap.push (.cells (old ++ new ++ rest) e) ∧ SameOut W W' ∧
      (Builtin.append_ #[t, u] ty #[.slice base sLen sCap, Y]).run P W = .ok (.slice (some ⟨W.heap.size, 0, none⟩) (sLen + n) newCap) W' := by
  have hzz : (match d with | .int _ => true | _ => false) = false := by cases d <;> first | rfl | exact absurd rfl (hd _)
  have hsz : szT P e = some i.size := by simp [szT, hi]
  have hfit : ¬ (281474976710656 < Builtin.nextslicecap (sLen + n) sCap * i.bytes) := by
    have h1 : (sLen + n + (sLen + n) / 4 + 192) * i.bytes ≤ (1048576 + 1048576 / 4 + 192) * 1048576 := Nat.mul_le_mul (by omega) hb1
    have := growslice_fits_wide hgt (Nat.le_trans h1 (by decide))
    omega
  have hfit' : ¬ (Builtin.nextslicecap (sLen + n) sCap * i.bytes > 2 ^ 48) := by simpa using hfit
  let q : Question := .appendCap (sLen + n) sCap e
  let nc : Nat := q.cut (W.tape W.drawn q)
  have hcut : sLen + n ≤ nc := by show sLen + n ≤ sLen + n + _; omega
  have hcut2 : nc ≤ 9223372036854775807 := by
    have := grownCap_le_maxLen W (sLen + n) sCap e (by unfold maxLen; omega)
    unfold maxLen at this
    exact this
  have hch : (choose q).run P W = .ok nc W.drew := by rw [run_choose]; rfl
  have hzero : ∀ w, (zeroValue e).run P w = .ok z w := fun w => run_zero hz w
  refine ⟨nc, Builtin.zeroCells z.cells (nc - (sLen + n)), { W.drew with heap := W.drew.heap.push (.cells (old ++ new ++ Builtin.zeroCells z.cells (nc - (sLen + n))) e) }, ⟨hcut, hcut2⟩, by simp [Builtin.zeroCells, hzs], rfl, ⟨rfl, rfl, rfl⟩, ?_⟩
  unfold Builtin.append_
  simp only [List.getElem?_toArray, List.getElem?_cons_zero, List.getElem?_cons_succ, Sem.run_bind, run_und ht, run_und hu, run_sz hsz, Result.andThen_ok, Sem.run_pure, hzz, Bool.false_eq_true, if_false, hn, Bool.not_false, if_true]
  rw [if_neg (by omega)]
  simp only [Sem.run_bind, run_info hi, Result.andThen_ok, hb0, or_self, and_false, false_or, if_false, Sem.run_pure]
  rw [if_neg hfit']
  simp only [Sem.run_bind, Result.andThen_ok, Sem.run_pure]
  rw [hch]
  simp only [Result.andThen_ok, run_askRoom, run_info hi, hold W.drew rfl, hnew W.drew rfl, hzero, newRow, run_newObj, Sem.run_bind, Sem.run_pure]
  rfl
end
end Go.Proofs.YtjckgagkkknmnaaDoor.Rk
/-
  Reckoning a program in the kernel: append and copy. Nothing of the program.
-/
namespace Go.Proofs.YtjckgagkkknmnaaDoor.Rk
set_option linter.unusedVariables false
set_option linter.unusedSimpArgs false
open Go
set_option maxHeartbeats 1000000
set_option linter.unusedSimpArgs false

section
variable {w0 : World} {P : Program} {G : Nat} {a : Tri AV} {s s' : St} {o : Oper} {v : AV} {m : Tl} {H : Hp} {W : World}
theorem updH_looked {s1 : St} (hn : s1.nx = s.nx) : updH H s s1 [] = H := by
  funext n
  unfold updH
  rw [if_neg]
  rintro (h | h)
  · cases h
  · omega
theorem Stp.after {s1 s2 : St} {T1 T2 W2 : List Nat} {m2 : Tl} {Wb : World} (g1 : Seg s s1 T1 []) (hn : s1.nx = s.nx) (g2 : Seg s1 s2 T2 W2) (hg : Good w0 P G m H W) (h2 : Stp w0 P G s1 s2 W2 m m2 H W Wb) : Stp w0 P G s s2 W2 m m2 H W Wb := by
  have := Stp.trans (W1 := []) g1 g2 (Stp.looked g1 hn hg) (by rw [updH_looked hn]; exact h2)
  simpa using this
theorem Agree.after {s1 : St} {T1 T2 : List Nat} (g1 : Seg s s1 T1 []) (hn : s1.nx = s.nx) (h : Agree H s (T2 ++ T1)) : Agree H s1 T2 := by
  have := Agree.left g1 h
  rwa [updH_looked hn] at this
theorem Fresh.after {s1 s2 : St} (hn : s1.nx = s.nx) (h : Fresh m s s2) : Fresh m s1 s2 := fun n h1 h2 => h n (by omega) h2
theorem ow_take_app {α : Type} : ∀ (us l : List α) (k : Nat), k + us.length ≤ l.length → (ow us l k).take (k + us.length) = l.take k ++ us
  | [], l, k, _ => by simp [ow]
  | u :: us, l, k, h => by
    simp only [List.length_cons] at h
    have ih := ow_take_app us (l.set k u) (k + 1) (by simp; omega)
    simp only [ow, List.length_cons]
    rw [show k + (us.length + 1) = k + 1 + us.length by omega, ih]
    have : (l.set k u).take (k + 1) = l.take k ++ [u] := by
      rw [List.take_add_one, List.getElem?_set, if_pos rfl, if_pos (by omega)]
      rw [List.take_set_of_le (Nat.le_refl k)]
      rfl
    rw [this]
    simp
/-- The new row of an append. -/
theorem OR.row {m' : Tl} {cs : List AV} {old new rest : Array Value} {e : TypeId} (h : LR m' cs (old.toList ++ new.toList)) : OR P m' (.cells cs false) (.cells (old ++ new ++ rest) e) := by
  have hlen : cs.length ≤ (old ++ new ++ rest).size := by
    have := h.1
    simp at this
    simp; omega
  refine .cells (lo := 0) (hi := 0) hlen (fun h => by cases h) (fun i x hx => ?_) (fun i _ h => by omega)
  obtain ⟨u, hu, hu'⟩ := h.get hx
  refine ⟨u, ?_, hu'⟩
  rw [← Array.getElem?_toList, Array.toList_append, Array.toList_append, List.getElem?_append_left]
  · exact hu
  · exact (List.getElem?_eq_some_iff.1 hu).1
theorem alloc_app {s1 : St} {cs : List AV} {n : Nat} (h : allocO (.cells cs false) s = some (n, s1)) {old new rest : Array Value} {e : TypeId} {W' : World} (hg : Good w0 P G m H W) (hf : Fresh m s s1) (hl : LR m cs (old.toList ++ new.toList)) (hW : W'.heap = W.heap.push (.cells (old ++ new ++ rest) e)) (hrest : SameOut W W') :
    Stp w0 P G s s1 [] m (mSet m n W.heap.size (old ++ new ++ rest).size) H W W' ∧ mSet m n W.heap.size (old ++ new ++ rest).size n = some W.heap.size ∧ (mSet m n W.heap.size (old ++ new ++ rest).size).c n = (old ++ new ++ rest).size := by
  obtain ⟨hn, hseg, hnx, _⟩ := allocO_spec h
  have hm0 : m n = none := hf n (by omega) (by omega)
  refine ⟨?_, mSet_same _ _ _ _, mSet_c _ _ _ _⟩
  refine Stp.alloc h hg hf (ob := .cells (old ++ new ++ rest) e) _ (by rw [hW]; simp) (fun k hk => by rw [hW]; simp [Array.getElem?_push, Nat.ne_of_lt hk]) (OR.row (hl.mono (mSet_ext hm0))) (fun c' el' fr' q => by cases q; exact (mSet_c _ _ _ _).symm) hrest
theorem OpG.app {t u e : TypeId} {d : TypeDesc} {i : TypeInfo} {z : Value} {x y : Operand} {x' y' : Opd} (ho : o.op = .call { callee := .builtin .append, args := #[x, y], argTypes := #[t, u] }) (ht : P.underlying t = some (.slice e)) (hu : P.underlying u = some d) (hd : ∀ k, d ≠ .int k) (hi : P.info? e = some i)
    (hz : zeroT P e = some z) (hzs : z.cells.size = i.size) (hs0 : i.size ≠ 0) (hb0 : i.bytes ≠ 0) (hb1 : i.bytes ≤ 1048576) (hx : cO P x = some x') (hy : cO P y = some y') {cl yl : Nat → List AV → St → Option (AV × St)} (h : evOp cl yl a s (.app i.size x' y') = some (v, s')) : OpG w0 P a s s' o v := by
  obtain ⟨p, hp, h_⟩ := ob_some h; clear h; have h := h_; clear h_
  obtain ⟨q, hq, h_⟩ := ob_some h; clear h; have h := h_; clear h_
  obtain ⟨n, hn, h_⟩ := ob_some h; clear h; have h := h_; clear h_
  obtain ⟨⟨new, s1⟩, hnew, h_⟩ := ob_some h; clear h; have h := h_; clear h_
  obtain ⟨hone, h_⟩ := rec_some h; clear h; have h := h_; clear h_
  simp only [Bool.and_eq_true] at hone
  obtain ⟨hone, hlen⟩ := hone
  have hlen := Nat.eq_of_beq_eq_true hlen
  obtain ⟨T1, g1, hn1, hfirst⟩ := firstA_spec (w0 := w0) (P := P) hnew
  have hexec : ∀ (act : Act) (W : World), (execOp act.eval o).run P W = ((Builtin.append_ #[t, u] o.type #[act.eval x, act.eval y]).run P W).andThen fun r w => .ok (.value r) w := by
    intro act W
    simp [execOp, ho, resolve, invoke, builtin]
  have hxm : x ∈ o.op.operands.toList := by simp [ho, Op.operands, Call.operands]
  have hym : y ∈ o.op.operands.toList := by simp [ho, Op.operands, Call.operands]
  split at h
  · -- nil
    obtain ⟨hsm, h_⟩ := rec_some h; clear h; have h := h_; clear h_
    have hsm := Nat.le_of_ble_eq_true hsm
    rcases rec_two h with ⟨hn0, h⟩ | ⟨hn0, h⟩
    · obtain ⟨⟨nm, s2⟩, hal, h_⟩ := ob_some h; clear h; have h := h_; clear h_
      cases h
      have hn0 : n ≠ 0 := Nat.ne_of_beq_eq_false hn0
      obtain ⟨hnm, g2, hnx2, _⟩ := allocO_spec hal
      refine ⟨[] ++ T1, [] ++ [], g1.trans g2, fun m H W act K hg ha hf hr hK => ?_⟩
      have h1 := rdo_spec hx hp hr hxm hg.glob
      have h2 := rdo_spec hy hq hr hym hg.glob
      generalize hzx : act.eval x = zx at h1
      cases h1
      obtain ⟨arr, hrun, hl⟩ := hfirst m H W _ T1 _ hg (by simpa using ha) (fun k hk => hk) h2
      obtain ⟨nc, rest, W', ⟨q1, q1b⟩, q2, q3, q3r, q4⟩ := run_append_new (base := none) (sLen := 0) (sCap := 0) (old := #[]) (ty := o.type) ht hu hd hi hz hzs hb0 hb1 (by omega) (run_lenOf hn h2 W) (by omega) (fun w _ => rfl) hrun
      obtain ⟨k1, k2, k3⟩ := alloc_app (s := s1) (old := #[]) (new := arr) (rest := rest) (e := e) hal hg (Fresh.after hn1 hf) (by simpa using hl) q3 q3r
      rw [hexec, hzx, q4]
      refine hK _ _ W' (Stp.after g1 hn1 g2 hg k1) ?_
      rw [Nat.zero_add] at q1 q2 ⊢
      refine .slu 0 n i.size nc k2 q1 ?_ q1b
      rw [k3]
      have : arr.size = n * i.size := by rw [← hlen, hl.1]; simp
      simp [this, q2]
      rw [← Nat.add_mul]
      exact Nat.le_of_eq (by congr 1; omega)
    · cases h
      have hn0 := Nat.eq_of_beq_eq_true hn0
      subst hn0
      refine ⟨T1, [], g1, fun m H W act K hg ha hf hr hK => ?_⟩
      have h1 := rdo_spec hx hp hr hxm hg.glob
      have h2 := rdo_spec hy hq hr hym hg.glob
      generalize hzx : act.eval x = zx at h1
      cases h1
      obtain ⟨arr, hrun, hl⟩ := hfirst m H W _ T1 _ hg ha (fun k hk => hk) h2
      rw [hexec, hzx, run_append_in (W' := W) ht hu hd hi (run_lenOf hn h2 W) (Nat.le_refl 0) (hrun W rfl) (fun b hb => by cases hb) (fun _ => rfl)]
      exact hK m _ W (Stp.looked g1 hn1 hg) .nils
  · -- room is told
    rename_i b off len cap
    obtain ⟨hsm, h_⟩ := rec_some h; clear h; have h := h_; clear h_
    have hsm := Nat.le_of_ble_eq_true hsm
    rcases rec_two h with ⟨hc, h⟩ | ⟨hc, h⟩
    · obtain ⟨⟨old, s2⟩, hrow, h_⟩ := ob_some h; clear h; have h := h_; clear h_
      obtain ⟨⟨nm, s3⟩, hal, h_⟩ := ob_some h; clear h; have h := h_; clear h_
      cases h
      have hc : ¬ len + n ≤ cap := fun e => by rw [Nat.ble_eq_true_of_le e] at hc; cases hc
      obtain ⟨g2, hn2, hblt, hrow'⟩ := rowA_spec (w0 := w0) (P := P) hrow
      obtain ⟨hnm, g3, hnx3, _⟩ := allocO_spec hal
      have g12 := g1.trans g2
      have hn12 : s2.nx = s.nx := by omega
      refine ⟨[] ++ ([b] ++ T1), [] ++ ([] ++ []), g12.trans g3, fun m H W act K hg ha hf hr hK => ?_⟩
      have h1 := rdo_spec hx hp hr hxm hg.glob
      have h2 := rdo_spec hy hq hr hym hg.glob
      generalize hzx : act.eval x = zx at h1
      obtain ⟨b', c, hm, rfl, hle⟩ := h1.slice (.inl ⟨_, rfl⟩)
      cases h1
      have haA : Agree H s ([b] ++ T1) := by simpa using ha
      have ha1 : Agree H s1 [b] := Agree.after g1 hn1 haA
      have hgw : ∀ w : World, w.heap = W.heap → Good w0 P P.globals.size m H w := fun w hw => hg.of_heap hw
      obtain ⟨arr, hrun, hl⟩ := hfirst m H W _ ([b] ++ T1) _ hg haA (fun k hk => by simp [hk]) h2
      obtain ⟨cc, oarr, ho1, ho2, ho3⟩ := hrow' m H W _ [b] hg ha1 (by simp)
      rw [hm] at ho1; cases ho1
      obtain ⟨nc, rest, W', ⟨q1, q1b⟩, q2, q3, q3r, q4⟩ := run_append_new (base := some ⟨b', off, none⟩) (sLen := len) (sCap := cap) (ty := o.type) ht hu hd hi hz hzs hb0 hb1 hsm (run_lenOf hn h2 W) (by omega) ho2 hrun
      obtain ⟨k1, k2, k3⟩ := alloc_app (s := s2) (old := oarr) (new := arr) (rest := rest) (e := e) hal hg (Fresh.after hn12 hf) (ho3.append hl) q3 q3r
      rw [hexec, hzx, q4]
      obtain ⟨SZ, hSZ⟩ : ∃ k, (oarr ++ arr ++ rest).size = k := ⟨_, rfl⟩
      rw [hSZ] at k1 k2 k3
      refine hK _ _ W' (by simpa using Stp.after (by simpa using g12) hn12 g3 hg k1) ?_
      refine .slu 0 (len + n) i.size nc k2 q1 ?_ q1b
      rw [k3, ← hSZ]
      have e1 : arr.size = n * i.size := by rw [← hlen, hl.1]; simp
      have e2 : oarr.size = len * i.size := by
        have h3 := ho3.1
        obtain ⟨⟨cs0, ex0, s0⟩, hr0, hrow2⟩ := ob_some hrow
        obtain ⟨l0, hl0, hrow2⟩ := ob_some hrow2
        cases hrow2
        obtain ⟨hle0, rfl⟩ := sub_some hl0
        have h4 : ((cs0.drop off).take (len * i.size)).length = oarr.toList.length := h3
        simp at h4
        omega
      simp [e1, e2, q2]
      have : nc * i.size = len * i.size + n * i.size + (nc - (len + n)) * i.size := by
        rw [← Nat.add_mul, ← Nat.add_mul]
        congr 1
        omega
      omega
    · obtain ⟨s2, hst, h_⟩ := ob_some h; clear h; have h := h_; clear h_
      cases h
      have hc := Nat.le_of_ble_eq_true hc
      obtain ⟨T2, g2, hT2, hn2, hst'⟩ := storeA_spec (w0 := w0) (P := P) hst
      refine ⟨T2 ++ T1, [b] ++ [], g1.trans g2, fun m H W act K hg ha hf hr hK => ?_⟩
      have h1 := rdo_spec hx hp hr hxm hg.glob
      have h2 := rdo_spec hy hq hr hym hg.glob
      generalize hzx : act.eval x = zx at h1
      obtain ⟨b', c, hm, rfl, hle⟩ := h1.slice (.inl ⟨_, rfl⟩)
      cases h1
      obtain ⟨arr, hrun, hl⟩ := hfirst m H W _ (T2 ++ T1) _ hg ha (fun k hk => by simp [hk]) h2
      obtain ⟨bb, W', hb1', hrunS, hstp⟩ := hst' m H W _ arr.toList hg (Agree.after g1 hn1 ha) hl
      rw [hm] at hb1'; cases hb1'
      rw [hexec, hzx, run_append_in (W' := W') ht hu hd hi (run_lenOf hn h2 W) hc (hrun W rfl) (fun b0 hb0 => by cases hb0; rw [addr_add]; exact hrunS) (fun h => by cases h)]
      exact hK m _ W' (by simpa using Stp.after g1 hn1 g2 hg hstp) (.sl off (len + n) cap hm hc)
  · -- room is not told
    rename_i b len z0
    obtain ⟨hsm, h_⟩ := rec_some h; clear h; have h := h_; clear h_
    simp only [Bool.and_eq_true] at hsm
    obtain ⟨hsm, hz0⟩ := hsm
    have hsm := Nat.le_of_ble_eq_true hsm
    have hz0 := Nat.eq_of_beq_eq_true hz0
    subst hz0
    rcases rec_two h with ⟨hn0, h⟩ | ⟨hn0, h⟩
    · obtain ⟨⟨cs, ex, s2⟩, hcells, h_⟩ := ob_some h; clear h; have h := h_; clear h_
      obtain ⟨hcl, h_⟩ := rec_some h; clear h; have h := h_; clear h_
      have hcl := Nat.eq_of_beq_eq_true hcl
      obtain ⟨s3, hput, h_⟩ := ob_some h; clear h; have h := h_; clear h_
      obtain ⟨⟨nm, s4⟩, hal, h_⟩ := ob_some h; clear h; have h := h_; clear h_
      cases h
      have hn0 : n ≠ 0 := Nat.ne_of_beq_eq_false hn0
      obtain ⟨hblt, _, g2, _, hn2⟩ := look_spec (cellsAt_look hcells)
      obtain ⟨_, g3, hn3, _⟩ := putO_spec hput
      obtain ⟨hnm, g4, hn4, _⟩ := allocO_spec hal
      have g12 := g1.trans g2
      have hn12 : s2.nx = s.nx := by omega
      have g34 := g3.trans g4
      refine ⟨([] ++ [b]) ++ ([b] ++ T1), ([] ++ [b]) ++ ([] ++ []), g12.trans g34, fun m H W act K hg ha hf hr hK => ?_⟩
      have h1 := rdo_spec hx hp hr hxm hg.glob
      have h2 := rdo_spec hy hq hr hym hg.glob
      generalize hzx : act.eval x = zx at h1
      cases h1
      rename_i b' cap hB hm hle hC
      have haA : Agree H s ([b] ++ T1) := fun k hk => ha k (by simp at hk ⊢; rcases hk with h | h <;> simp [h])
      have ha1 : Agree H s1 [b] := Agree.after g1 hn1 haA
      have hgw : ∀ w : World, w.heap = W.heap → Good w0 P P.globals.size m H w := fun w hw => hg.of_heap hw
      obtain ⟨arr, hrun, hl⟩ := hfirst m H W _ ([b] ++ T1) _ hg haA (fun k hk => by simp [hk]) h2
      obtain ⟨b2, c, el, lo, hi', hb, hh, hlen2, _, hlc, hfr, hne, hsz⟩ := cells_obj hcells ha1 (by simp) hg
      rw [hm] at hb; cases hb
      have harr : arr.size = n * i.size := by rw [← hlen, hl.1]; simp
      have hstep : ∀ (m' : Tl) (W' : World), Stp w0 P P.globals.size s2 s4 [b] m m' H W W' → Stp w0 P P.globals.size s s4 (([] ++ [b]) ++ ([] ++ [])) m m' H W W' := fun m' W' hst => by
        simpa using Stp.after (by simpa using g12) hn12 (by simpa using g34) hg hst
      rw [hexec, hzx]
      by_cases hroom : len + n ≤ cap
      · have hmul : (len + n) * i.size ≤ cap * i.size := Nat.mul_le_mul_right _ hroom
        rw [Nat.add_mul] at hmul
        obtain ⟨W', r1, r2, r3, r4⟩ := run_storeCells_rk (P := P) (b := b') (off := len * i.size) arr.toList 0 W c hh (by simp [harr]; omega) (hl.one hone) (fun i h => hfr i (Nat.le_of_lt h))
        rw [run_append_in (W' := W') ht hu hd hi (run_lenOf hn h2 W) hroom (hrun W rfl) (fun b0 hb0 => by cases hb0; rw [addr_add, Nat.zero_add]; exact r1) (fun h => by cases h)]
        refine hK (mSet m nm b' (m.c b)) _ W' (hstep _ _ (Stp.move hput hal hg hne hm (Fresh.after hn12 hf) (m.c b) r2 r3 ?_ ?_ r4)) (.slu 0 (len + n) i.size cap (mSet_same _ _ _ _) hroom (by rw [mSet_c]; exact hC) hB)
        · have hm0 : m nm = none := hf nm (by omega) (by show nm < s4.nx; omega)
          have hlapp : LR m (cs ++ new) ((ow arr.toList c.toList (len * i.size + 0)).take (cs ++ new).length) := by
            rw [List.length_append, hcl, Nat.add_zero, show new.length = arr.toList.length from hl.1, ow_take_app _ _ _ (by simp [harr]; omega)]
            have := hlc.append hl
            rwa [hcl] at this
          have hszc : (Array.mk (ow arr.toList c.toList (len * i.size + 0))).size = c.size := by show (ow arr.toList c.toList _).length = _; rw [ow_length]; simp
          have hl2 : (cs ++ new).length = len * i.size + n * i.size := by rw [List.length_append, hcl, hlen]
          refine .cells (by rw [hszc, hl2]; omega) (fun h => by cases h) (fun j w hw => ?_) (fun j hj => hfr j (by rw [← hszc]; exact hj))
          obtain ⟨uu, hu1, hu2⟩ := (hlapp.mono (mSet_ext (b := b') (C := m.c b) hm0)).get hw
          rw [List.getElem?_take] at hu1
          split at hu1
          · exact ⟨uu, by simpa using hu1, hu2⟩
          · cases hu1
        · intro c' el' fr' e'
          cases e'
          rw [mSet_c, ← hsz]
          show (ow arr.toList c.toList _).length = _
          rw [ow_length]
          simp
      · have hoc : ∀ w : World, w.heap = W.heap → (Builtin.firstCells i.size len (.slice (some ⟨b', 0, none⟩) len cap)).run P w = .ok ⟨(c.toList.drop 0).take (len * i.size)⟩ w := by
          intro w hw
          exact run_loadCells_rk (by rw [hw]; exact hh) (by omega)
        obtain ⟨nc, rest, W', ⟨q1, q1b⟩, q2, q3, q3r, q4⟩ := run_append_new (base := some ⟨b', 0, none⟩) (sLen := len) (sCap := cap) (ty := o.type) ht hu hd hi hz hzs hb0 hb1 hsm (run_lenOf hn h2 W) (by omega) hoc hrun
        have hst1 : Stp w0 P P.globals.size s2 s3 [b] m m H W W := Stp.put hput hg hne hm (fun _ _ => rfl) (fun x hx => by cases hx)
        have hlold : LR m (cs ++ new) ((c.toList.drop 0).take (len * i.size) ++ arr.toList) := by
          have := hlc.append hl
          rw [hcl] at this
          simpa using this
        have hal2 := alloc_app (w0 := w0) (P := P) (G := P.globals.size) (s := s3) (H := updH H s2 s3 [b]) (W := W) (old := ⟨(c.toList.drop 0).take (len * i.size)⟩) (new := arr) (rest := rest) (e := e) hal hst1.good (Fresh.left g3 hst1 (Fresh.after hn12 hf)) hlold q3 q3r
        obtain ⟨k1, k2, k3⟩ := hal2
        rw [q4]
        refine hK _ _ W' (hstep _ _ (by simpa using Stp.trans g3 g4 hst1 k1)) (.slu 0 (len + n) i.size nc k2 q1 ?_ q1b)
        rw [k3]
        have : nc * i.size = len * i.size + n * i.size + (nc - (len + n)) * i.size := by
          rw [← Nat.add_mul, ← Nat.add_mul]
          congr 1
          omega
        simp [harr, q2]
        omega
    · cases h
      have hn0 := Nat.eq_of_beq_eq_true hn0
      subst hn0
      refine ⟨T1, [], g1, fun m H W act K hg ha hf hr hK => ?_⟩
      have h1 := rdo_spec hx hp hr hxm hg.glob
      have h2 := rdo_spec hy hq hr hym hg.glob
      generalize hzx : act.eval x = zx at h1
      cases h1
      rename_i b' cap hB hm hle hC
      obtain ⟨arr, hrun, hl⟩ := hfirst m H W _ T1 _ hg ha (fun k hk => hk) h2
      have : arr = #[] := by
        have := hl.1
        rw [hlen] at this
        simp at this
        exact Array.eq_empty_of_size_eq_zero (by omega)
      subst this
      rw [hexec, hzx, run_append_in (W' := W) ht hu hd hi (run_lenOf hn h2 W) hle (hrun W rfl) (fun b hb => rfl) (fun _ => rfl)]
      exact hK m _ W (Stp.looked g1 hn1 hg) (.slu 0 len i.size cap hm hle hC hB)
  · cases h
end
end Go.Proofs.YtjckgagkkknmnaaDoor.Rk
/-
  Reckoning a program in the kernel: copy, make, bytes as text, maps of numbers. Nothing of the program.
-/
namespace Go.Proofs.YtjckgagkkknmnaaDoor.Rk
set_option linter.unusedVariables false
set_option linter.unusedSimpArgs false
open Go
set_option maxHeartbeats 1000000
set_option linter.unusedSimpArgs false

section
variable {w0 : World} {P : Program} {G : Nat} {a : Tri AV} {s s' : St} {o : Oper} {v : AV} {m : Tl} {H : Hp} {W : World}
theorem OpG.copy {t u e : TypeId} {k : Nat} {x y : Operand} {x' y' : Opd} (ho : o.op = .call { callee := .builtin .copy, args := #[x, y], argTypes := #[t, u] }) (ht : P.underlying t = some (.slice e)) (hk : szT P e = some k) (hx : cO P x = some x') (hy : cO P y = some y')
    {cl yl : Nat → List AV → St → Option (AV × St)} (h : evOp cl yl a s (.copy k x' y') = some (v, s')) : OpG w0 P a s s' o v := by
  obtain ⟨p, hp, h_⟩ := ob_some h; clear h; have h := h_; clear h_
  obtain ⟨q, hq, h_⟩ := ob_some h; clear h; have h := h_; clear h_
  obtain ⟨ny, hny, h_⟩ := ob_some h; clear h; have h := h_; clear h_
  obtain ⟨nx, hnx, h_⟩ := ob_some h; clear h; have h := h_; clear h_
  rw [fN_eq] at h
  obtain ⟨⟨new, s1⟩, hnew, h_⟩ := ob_some h; clear h; have h := h_; clear h_
  obtain ⟨T1, g1, hn1, hfirst⟩ := firstA_spec (w0 := w0) (P := P) hnew
  have hexec : ∀ (act : Act) (W : World), (execOp act.eval o).run P W = ((Builtin.copy_ #[t, u] o.type #[act.eval x, act.eval y]).run P W).andThen fun r w => .ok (.value r) w := by
    intro act W
    simp [execOp, ho, resolve, invoke, builtin]
  have hxm : x ∈ o.op.operands.toList := by simp [ho, Op.operands, Call.operands]
  have hym : y ∈ o.op.operands.toList := by simp [ho, Op.operands, Call.operands]
  have hnil : p = .nils → new = new → OpG w0 P a s s1 o (.int .i64 (Nat.min ny nx)) := by
    rintro rfl _
    refine ⟨T1, [], g1, fun m H W act K hg ha hf hr hK => ?_⟩
    have h1 := rdo_spec hx hp hr hxm hg.glob
    have h2 := rdo_spec hy hq hr hym hg.glob
    generalize hzx : act.eval x = zx at h1
    cases h1
    cases hnx
    obtain ⟨arr, hrun, hl⟩ := hfirst m H W _ T1 _ hg ha (fun k hk => hk) h2
    have hr2 : (Builtin.copy_ #[t, u] o.type #[.slice none 0 0, act.eval y]).run P W = .ok (goInt (Nat.min ny 0)) W := by
      unfold Builtin.copy_
      simp only [List.getElem?_toArray, List.getElem?_cons_zero, List.getElem?_cons_succ, Sem.run_bind, run_und ht, run_sz hk, Result.andThen_ok, Sem.run_pure, run_lenOf hny h2, hrun W rfl]
    rw [hexec, hzx, hr2]
    exact hK m _ W (Stp.looked g1 hn1 hg) (.int _ _)
  have hsl : ∀ b off, ((∃ cap, p = .sl b off nx cap) ∨ (∃ z, p = .slu b off nx z)) → ∀ s2, storeA b off new s1 = some s2 → OpG w0 P a s s2 o (.int .i64 (Nat.min ny nx)) := by
    intro b off hps s2 hst
    obtain ⟨T2, g2, hT2, hn2, hst'⟩ := storeA_spec (w0 := w0) (P := P) hst
    refine ⟨T2 ++ T1, [b] ++ [], g1.trans g2, fun m H W act K hg ha hf hr hK => ?_⟩
    have h1 := rdo_spec hx hp hr hxm hg.glob
    have h2 := rdo_spec hy hq hr hym hg.glob
    generalize hzx : act.eval x = zx at h1
    obtain ⟨b', c, hm, rfl, hle⟩ := h1.slice hps
    obtain ⟨arr, hrun, hl⟩ := hfirst m H W _ (T2 ++ T1) _ hg ha (fun k hk => by simp [hk]) h2
    obtain ⟨bb, W', hb1', hrunS, hstp⟩ := hst' m H W _ arr.toList hg (Agree.after g1 hn1 ha) hl
    rw [hm] at hb1'; cases hb1'
    have hr2 : (Builtin.copy_ #[t, u] o.type #[.slice (some ⟨b', off, none⟩) nx c, act.eval y]).run P W = .ok (goInt (Nat.min ny nx)) W' := by
      unfold Builtin.copy_
      simp only [List.getElem?_toArray, List.getElem?_cons_zero, List.getElem?_cons_succ, Sem.run_bind, run_und ht, run_sz hk, Result.andThen_ok, Sem.run_pure, run_lenOf hny h2, hrun W rfl, hrunS]
    rw [hexec, hzx, hr2]
    exact hK m _ W' (by simpa using Stp.after g1 hn1 g2 hg hstp) (.int _ _)
  dsimp only at h
  split at h
  · cases h; exact hnil rfl rfl
  · rename_i b off len cap
    obtain ⟨_, h_⟩ := rec_some h; clear h; have h := h_; clear h_
    obtain ⟨s2, hst, h_⟩ := ob_some h; clear h; have h := h_; clear h_
    cases h
    cases hnx
    exact hsl b off (.inl ⟨_, rfl⟩) _ hst
  · rename_i b off len z
    obtain ⟨_, h_⟩ := rec_some h; clear h; have h := h_; clear h_
    obtain ⟨s2, hst, h_⟩ := ob_some h; clear h; have h := h_; clear h_
    cases h
    cases hnx
    exact hsl b off (.inr ⟨_, rfl⟩) _ hst
  · cases h
theorem OpG.mksl {t e : TypeId} {i : TypeInfo} {z : List AV} {l c : Operand} {l' c' : Opd} (ho : o.op = .makeSlice t l c) (ht : P.underlying t = some (.slice e)) (hi : P.info? e = some i) (hz : zCells P e = some z) (hzl : z.length = i.size) (hz0 : i.size ≠ 0) (hl : cO P l = some l') (hc : cO P c = some c')
    {cl yl : Nat → List AV → St → Option (AV × St)} (h : evOp cl yl a s (.mksl z i.bytes l' c') = some (v, s')) : OpG w0 P a s s' o v := by
  obtain ⟨p, hp, h_⟩ := ob_some h; clear h; have h := h_; clear h_
  obtain ⟨q, hq, h_⟩ := ob_some h; clear h; have h := h_; clear h_
  split at h
  · rename_i lq cq
    obtain ⟨hb, h_⟩ := rec_some h; clear h; have h := h_; clear h_
    simp only [Bool.and_eq_true] at hb
    obtain ⟨hb, hb2⟩ := hb
    have hb := Nat.le_of_ble_eq_true hb
    have hb2 := Nat.le_of_ble_eq_true hb2
    obtain ⟨hle, h_⟩ := rec_some h; clear h; have h := h_; clear h_
    have hle := Nat.le_of_ble_eq_true hle
    obtain ⟨⟨n, s1⟩, hal, h_⟩ := ob_some h; clear h; have h := h_; clear h_
    cases h
    obtain ⟨hn, hseg, hnx, _⟩ := allocO_spec hal
    refine ⟨[], [], hseg, fun m H W act K hg ha hf hr hK => ?_⟩
    have h1 := rdo_spec hl hp hr (by simp [ho, Op.operands]) hg.glob
    have h2 := rdo_spec hc hq hr (by simp [ho, Op.operands]) hg.glob
    generalize hzl' : act.eval l = zl at h1
    generalize hzc' : act.eval c = zc at h2
    cases h1; cases h2
    obtain ⟨u, hu, hlz⟩ := zCells_spec hz m
    have hsz : szT P e = some i.size := by simp [szT, hi]
    have hwl : IntKind.i64.wrap (Int.ofNat lq) = (lq : Int) := by simp [IntKind.wrap, IntKind.bits, IntKind.signed]; omega
    have hwc : IntKind.i64.wrap (Int.ofNat cq) = (cq : Int) := by simp [IntKind.wrap, IntKind.bits, IntKind.signed]; omega
    have hbz : ¬ ((i.bytes : Int) * (cq : Int) > 2 ^ 48) := by
      have : (i.bytes : Int) * (cq : Int) = ((i.bytes * cq : Nat) : Int) := by push_cast; rfl
      rw [this]
      have h48 : ((2 : Int) ^ 48) = ((281474976710656 : Nat) : Int) := by decide
      rw [h48]
      omega
    let row : Array Value := if cq * i.size = 0 then #[] else (Array.range (cq * i.size)).map (u.cells[· % u.cells.size]!)
    have hrow : LR m (List.replicate cq z).flatten row.toList := by
      have hz00 : 0 < z.length := by omega
      show LR m _ (if cq * i.size = 0 then #[] else _ : Array Value).toList
      split
      · rename_i h0
        have : cq = 0 := by rcases Nat.mul_eq_zero.1 h0 with h | h <;> omega
        subst this
        exact LR.nil m
      · have := LR.zeros (len := cq) hlz hz00
        rw [hzl] at this
        exact this
    obtain ⟨k1, k2, k3⟩ := alloc_row hal (el := e) hg hf hrow
    have hrun : (execOp act.eval o).run P W = .ok (.value (.slice (some ⟨W.heap.size, 0, none⟩) lq cq)) { W with heap := W.heap.push (.cells row e) } := by
      simp only [execOp, ho, hzl', hzc', Instr.makeSlice, asInt, asIntOf, Sem.run_bind, run_und ht, run_info hi, Result.andThen_ok, Sem.run_pure, hwl, hwc]
      rw [if_neg]
      · simp only [Sem.run_bind, run_askRoom, Result.andThen_ok, run_sz hsz, Int.toNat_natCast, Sem.run_pure]
        by_cases h0 : cq * i.size = 0
        · rw [if_pos h0]
          simp only [Sem.run_bind, Sem.run_pure, Result.andThen_ok]
          have : row = (Array.range (cq * i.size)).map ((#[] : Array Value)[· % (#[] : Array Value).size]!) := by
            show (if cq * i.size = 0 then #[] else _ : Array Value) = _
            rw [if_pos h0, h0]
            simp
          rw [← this, k1]
          rfl
        · rw [if_neg h0]
          simp only [Sem.run_bind, run_zero hu, Sem.run_pure, Result.andThen_ok]
          have : row = (Array.range (cq * i.size)).map (u.cells[· % u.cells.size]!) := by
            show (if cq * i.size = 0 then #[] else _ : Array Value) = _
            rw [if_neg h0]
          rw [← this, k1]
          rfl
      · simp only [Bool.or_eq_true, decide_eq_true_eq, not_or]
        refine ⟨⟨⟨by omega, hbz⟩, by omega⟩, by omega⟩
    rw [hrun]
    exact hK _ _ _ k2 (.sl 0 lq cq k3 hle)
  · cases h
theorem u8s_spec : ∀ {cs : List AV} {l : List UInt8} {vs : List Value}, u8s cs = some l → LR m cs vs → ∃ ns : List Int, vs = ns.map (Value.int .u8) ∧ ns.map (fun n => UInt8.ofNat n.toNat) = l
  | [], l, vs, h, hl => by cases h; have := hl.inv_nil; subst this; exact ⟨[], rfl, rfl⟩
  | c :: cs, l, vs, h, hl => by
    obtain ⟨u, us, rfl, h1, h2⟩ := hl.inv_cons
    have h' : (match (generalizing := false) c with
      | .int .u8 (.ofNat n) => ob (u8s cs) fun l => some (UInt8.ofNat n :: l)
      | _ => none) = some l := h
    split at h'
    · rename_i n
      obtain ⟨l', hl', h3⟩ := ob_some h'
      cases h3
      obtain ⟨ns, rfl, rfl⟩ := u8s_spec hl' h2
      cases h1
      exact ⟨(n : Int) :: ns, rfl, by simp⟩
    · cases h'
theorem OpG.b2s {t u e : TypeId} {x : Operand} {x' : Opd} (ho : o.op = .convert t u x) (ht : P.underlying t = some (.slice e)) (hu : P.underlying u = some .string) (he : isU8 P e = true) (hx : cO P x = some x') {cl yl : Nat → List AV → St → Option (AV × St)}
    (h : evOp cl yl a s (.b2s x') = some (v, s')) : OpG w0 P a s s' o v := by
  have he' : P.underlying e = some (.int .u8) := by
    unfold isU8 at he
    split at he
    · assumption
    · cases he
  obtain ⟨p, hp, h_⟩ := ob_some h; clear h; have h := h_; clear h_
  have hxm : x ∈ o.op.operands.toList := by simp [ho, Op.operands]
  have hexec : ∀ (act : Act) (W : World) (b : Option Addr) (len cap : Nat), act.eval x = .slice b len cap → (execOp act.eval o).run P W = ((Conv.bytesToString (.slice b len cap)).run P W).andThen fun r w => .ok (.value r) w := by
    intro act W b len cap hz
    simp only [execOp, ho, hz, convert, Sem.run_bind, run_und ht, run_und hu, run_und he', Result.andThen_ok, Sem.run_pure]
  have hsl : ∀ b off len, ((∃ cap, p = .sl b off len cap) ∨ (∃ z, p = .slu b off len z)) → ob (rowA b off len s) (fun r => ob (u8s r.1) fun l => some (AV.str l, r.2)) = some (v, s') → OpG w0 P a s s' o v := by
    intro b off len hps h
    obtain ⟨⟨cs, s1⟩, hrow, h_⟩ := ob_some h; clear h; have h := h_; clear h_
    obtain ⟨l, hl0, h_⟩ := ob_some h; clear h; have h := h_; clear h_
    cases h
    obtain ⟨g1, hn1, hblt, hrow'⟩ := rowA_spec (w0 := w0) (P := P) hrow
    refine ⟨[b], [], g1, fun m H W act K hg ha hf hr hK => ?_⟩
    have h1 := rdo_spec hx hp hr hxm hg.glob
    generalize hz : act.eval x = z at h1
    obtain ⟨b', c, hm, rfl, hle⟩ := h1.slice hps
    obtain ⟨cc, arr, hc1, hc2, hc3⟩ := hrow' m H W _ [b] hg ha (by simp)
    rw [hm] at hc1; cases hc1
    obtain ⟨ns, hns, hl⟩ := u8s_spec hl0 hc3
    have harr : arr = (ns.map (Value.int .u8)).toArray := by apply Array.ext'; simpa using hns
    rw [hexec act W _ _ _ hz, run_bytesToString W _ len c ns (by rw [hc2 W rfl, harr]), foldl_push_bytes]
    simp only [Result.andThen_ok]
    refine hK m _ W (Stp.looked g1 hn1 hg) ?_
    have : (⟨ByteArray.empty.data ++ (ns.map fun n => UInt8.ofNat n.toNat).toArray⟩ : ByteArray) = ⟨⟨l⟩⟩ := by
      rw [hl]
      congr 1
      apply Array.ext'
      simp [ByteArray.empty, ByteArray.emptyWithCapacity]
      rfl
    rw [this]
    exact .str l
  split at h
  · cases h
    refine .pure fun m W act hg hr => ?_
    have h1 := rdo_spec hx hp hr hxm hg
    generalize hz : act.eval x = z at h1
    cases h1
    rw [hexec act W _ _ _ hz]
    exact ⟨.string ⟨⟨[]⟩⟩, rfl, .str []⟩
  · exact hsl _ _ _ (.inl ⟨_, rfl⟩) h
  · exact hsl _ _ _ (.inr ⟨_, rfl⟩) h
  · cases h
end
end Go.Proofs.YtjckgagkkknmnaaDoor.Rk
/-
  Reckoning a program in the kernel: maps of numbers; all operations. Nothing of the program.
-/
namespace Go.Proofs.YtjckgagkkknmnaaDoor.Rk
set_option linter.unusedVariables false
set_option linter.unusedSimpArgs false
open Go
set_option maxHeartbeats 1000000
set_option linter.unusedSimpArgs false

section
variable {w0 : World} {P : Program} {G : Nat} {a : Tri AV} {s s' : St} {o : Oper} {v : AV} {m : Tl} {H : Hp} {W : World}
theorem OpG.mkmap {t : TypeId} (ho : o.op = .makeMap t none) {cl yl : Nat → List AV → St → Option (AV × St)} (h : evOp cl yl a s .mkmap = some (v, s')) : OpG w0 P a s s' o v := by
  obtain ⟨⟨n, s1⟩, hal, h_⟩ := ob_some h; clear h; have h := h_; clear h_
  cases h
  obtain ⟨hn, hseg, hnx, _⟩ := allocO_spec hal
  refine ⟨[], [], hseg, fun m H W act K hg ha hf hr hK => ?_⟩
  have hrun : (execOp act.eval o).run P W = .ok (.value (.map (some W.heap.size))) { W with heap := W.heap.push (.map #[] 0) } := by
    simp [execOp, ho, Instr.makeMap]
  rw [hrun]
  refine hK (mSet m n W.heap.size 0) _ _ (Stp.alloc hal hg hf (ob := .map #[] 0) 0 (by simp) (fun k hk => by simp [Array.getElem?_push, Nat.ne_of_lt hk]) (.mapo rfl (fun i e x he hx => by simp at he)) (fun c el fr q => by cases q)) (.map (mSet_same _ _ _ _))
theorem isI64_spec {t : TypeId} (h : isI64 P t = true) : P.underlying t = some (.int .i64) := by
  unfold isI64 at h
  split at h
  · assumption
  · cases h
/-- What is found, in both. -/
theorem find_spec {k : Int} : ∀ {es : List (AV × AV)} {en : List MapEntry} {r : Option AV} (i : Nat), findA k es = some r → es.length = en.length →
    (∀ (j : Nat) (e : AV × AV) (x : MapEntry), es[j]? = some e → en[j]? = some x → VR m e.1 x.key ∧ VR m e.2 x.val) →
    (r = none ∧ Instr.findNow (.int .i64) (.int .i64 k) en i = some none ∧ setA k v es = some (es ++ [(.int .i64 k, v)])) ∨
    (∃ (j : Nat) (x : MapEntry) (u : AV), r = some u ∧ en[j]? = some x ∧ x.key = .int .i64 k ∧ VR m u x.val ∧ Instr.findNow (.int .i64) (.int .i64 k) en i = some (some (i + j, x.val)) ∧ ∃ es', setA k v es = some es' ∧ es'.length = es.length ∧
      ∀ (q : Nat), es'[q]? = if q = j then (es[q]?).map (fun e => (e.1, v)) else es[q]?)
  | [], [], r, i, h, _, _ => by cases h; exact .inl ⟨rfl, rfl, rfl⟩
  | [], _ :: _, r, i, _, hl, _ => by simp at hl
  | _ :: _, [], r, i, _, hl, _ => by simp at hl
  | e :: es, x :: en, r, i, h, hl, hr => by
    have h' : (match (generalizing := false) e.1 with
      | .int .i64 j => Bool.rec (findA k es) (some (some e.2)) (beqI k j)
      | _ => none) = some r := h
    have hset : setA k v (e :: es) = (match (generalizing := false) e.1 with
      | .int .i64 j => Bool.rec (ob (setA k v es) fun es => some (e :: es)) (some ((e.1, v) :: es)) (beqI k j)
      | _ => none) := rfl
    obtain ⟨hk, hv⟩ := hr 0 e x rfl rfl
    split at h'
    · rename_i kk q hq
      rw [hq] at hk hset
      generalize hxk : x.key = xk at hk
      cases hk
      rcases rec_two h' with ⟨h1, h2⟩ | ⟨h1, h2⟩
      · have hne : ¬ k = q := by rw [beqI_eq, decide_eq_false_iff_not] at h1; exact h1
        have hbeq : (k == q) = false := by simpa using hne
        simp only [h1] at hset
        have hfn : Instr.findNow (.int .i64) (.int .i64 k) (x :: en) i = Instr.findNow (.int .i64) (.int .i64 k) en (i + 1) := by
          simp [Instr.findNow, hxk, Instr.sameNow, hbeq]
        rcases find_spec (i + 1) h2 (by simpa using hl) (fun j e' x' he' hx' => hr (j + 1) e' x' (by simpa using he') (by simpa using hx')) with ⟨a1, a2, a3⟩ | ⟨j, y, u, a1, a2, a3, a4, a5, es', a6, a7, a8⟩
        · refine .inl ⟨a1, by rw [hfn]; exact a2, ?_⟩
          rw [hset, a3]
          rfl
        · refine .inr ⟨j + 1, y, u, a1, by simpa using a2, a3, a4, by rw [hfn, a5]; congr 3; omega, e :: es', ?_, by simp [a7], fun q' => ?_⟩
          · rw [hset, a6]; rfl
          · cases q' with
            | zero => simp
            | succ q' => simp [a8]
      · have he : k = q := by rw [beqI_eq, decide_eq_true_iff] at h1; exact h1
        subst he
        simp only [h1] at hset
        cases h2
        refine .inr ⟨0, x, e.2, rfl, rfl, hxk, hv, ?_, (e.1, v) :: es, ?_, by simp, fun q' => ?_⟩
        · simp [Instr.findNow, hxk, Instr.sameNow]
        · rw [hset]
          congr 2
          rw [hq]
        · cases q' with
          | zero => simp
          | succ q' => simp
    · cases h'
theorem run_checkKey_int {t : TypeId} (ht : P.underlying t = some (.int .i64)) (b : Bool) (k : Int) (w : World) : (Instr.checkKey b 10000 t (.int .i64 k)).run P w = .ok () w := by
  have : ∀ d, (Instr.checkKey b (d + 1) t (.int .i64 k)).run P w = .ok () w := fun d => by simp [Instr.checkKey, run_und ht]
  exact this 9999
theorem run_getObj_map {b : Nat} {en : Array MapEntry} {clock : Nat} (h : W.heap[b]? = some (.map en clock)) : (getObj b).run P W = .ok (.map en clock) W := by
  simp [getObj, Sem.run, h]
theorem mapo_obj {n : Nat} {es : List (AV × AV)} {T : List Nat} (h : look n s = some (.mapo es, s')) (ha : Agree H s T) (hT : n ∈ T) (hg : Good w0 P G m H W) :
    ∃ b en clock, m n = some b ∧ W.heap[b]? = some (.map en clock) ∧ es.length = en.size ∧ (∀ (i : Nat) (e : AV × AV) (x : MapEntry), es[i]? = some e → en[i]? = some x → VR m e.1 x.key ∧ VR m e.2 x.val) ∧ live (H n) = true := by
  obtain ⟨b, ob, h1, h2, h3, h4, _⟩ := look_obj h rfl ha hT hg
  cases h3 with
  | @mapo _ en clock hlen hh => exact ⟨b, en, clock, h1, h2, hlen, hh, by rw [h4]; rfl⟩
theorem OpG.lookup {t kt e : TypeId} {z : Value} {za : AV} {ok : Bool} {x k : Operand} {x' k' : Opd} (ho : o.op = .lookup t x k ok) (ht : P.underlying t = some (.map kt e)) (hk : isI64 P kt = true) (hz : zeroT P e = some z) (hza : cV z = some za) (hx : cO P x = some x') (hk' : cO P k = some k')
    {cl yl : Nat → List AV → St → Option (AV × St)} (h : evOp cl yl a s (.lookup za ok x' k') = some (v, s')) : OpG w0 P a s s' o v := by
  obtain ⟨p, hp, h_⟩ := ob_some h; clear h; have h := h_; clear h_
  obtain ⟨q, hq, h_⟩ := ob_some h; clear h; have h := h_; clear h_
  split at h
  · rename_i n kv
    obtain ⟨⟨r, s1⟩, hlk, h_⟩ := ob_some h; clear h; have h := h_; clear h_
    split at h
    · rename_i es s2 heq
      cases heq
      obtain ⟨f, hfind, h_⟩ := ob_some h; clear h; have h := h_; clear h_
      obtain ⟨hlt, _, hseg, _, hnx⟩ := look_spec hlk
      have hs : s' = s1 ∧ v = Bool.rec (Option.rec za (fun v => v) f) (.tup [Option.rec za (fun v => v) f, .bool (Option.rec false (fun _ => true) f)]) ok := by
        cases ok <;> cases h <;> exact ⟨rfl, rfl⟩
      obtain ⟨rfl, rfl⟩ := hs
      clear h
      refine ⟨[n], [], hseg, fun m H W act K hg ha hf hr hK => ?_⟩
      have h1 := rdo_spec hx hp hr (by simp [ho, Op.operands]) hg.glob
      have h2 := rdo_spec hk' hq hr (by simp [ho, Op.operands]) hg.glob
      generalize hzx : act.eval x = zx at h1
      generalize hzk : act.eval k = zk at h2
      cases h1; cases h2
      rename_i b hb
      obtain ⟨b', en, clock, hb', hh, hlen, hent, _⟩ := mapo_obj hlk ha (by simp) hg
      rw [hb] at hb'; cases hb'
      have hku := isI64_spec hk
      have hbase : ∀ (fr : Option (Nat × Value)), Instr.findNow (.int .i64) (.int .i64 kv) en.toList 0 = some fr →
          (execOp act.eval o).run P W = .ok (.value (if ok then .tuple #[match fr with | some (_, v) => v | none => z, .bool fr.isSome] else match fr with | some (_, v) => v | none => z)) W := by
        intro fr hfr
        have hfk : (Instr.findKey kt (.int .i64 kv) en.toList).run P W = .ok fr W := by
          simp [Instr.findKey, run_und hku, hfr]
        simp only [execOp, ho, hzx, hzk, Instr.lookup, Sem.run_bind, run_und ht, Result.andThen_ok, run_getObj_map hh, Sem.run_pure, run_checkKey_int hku, hfk]
        cases fr with
        | none => simp only [Sem.run_bind, run_zero hz, Result.andThen_ok, Sem.run_pure]; rfl
        | some q => rfl
      rcases find_spec (m := m) (v := za) 0 hfind hlen (fun j e x he hx => hent j e x he (by rw [← Array.getElem?_toList]; exact hx)) with ⟨rfl, a2, _⟩ | ⟨j, y, u, rfl, a2, a3, a4, a5, _⟩
      · rw [hbase _ a2]
        refine hK m _ W (Stp.looked hseg hnx hg) ?_
        cases ok
        · exact cV_spec hza m
        · have := LR.cons (cV_spec hza m) (LR.cons (.bool false) (LR.nil m))
          exact .tup this.1 this.2
      · rw [hbase _ a5]
        refine hK m _ W (Stp.looked hseg hnx hg) ?_
        cases ok
        · exact a4
        · have := LR.cons a4 (LR.cons (.bool true) (LR.nil m))
          exact .tup this.1 this.2
    · cases h
  · cases h
theorem OpG.mapup {t kt e : TypeId} {x k y : Operand} {x' k' y' : Opd} (ho : o.op = .mapUpdate t x k y) (ht : P.underlying t = some (.map kt e)) (hk : isI64 P kt = true) (hx : cO P x = some x') (hk' : cO P k = some k') (hy : cO P y = some y')
    {cl yl : Nat → List AV → St → Option (AV × St)} (h : evOp cl yl a s (.mapup x' k' y') = some (v, s')) : OpG w0 P a s s' o v := by
  obtain ⟨p, hp, h_⟩ := ob_some h; clear h; have h := h_; clear h_
  obtain ⟨q, hq, h_⟩ := ob_some h; clear h; have h := h_; clear h_
  obtain ⟨va, hva, h_⟩ := ob_some h; clear h; have h := h_; clear h_
  split at h
  · rename_i n kv
    obtain ⟨⟨r, s1⟩, hlk, h_⟩ := ob_some h; clear h; have h := h_; clear h_
    split at h
    · rename_i es s2 heq
      cases heq
      obtain ⟨es', hset, h_⟩ := ob_some h; clear h; have h := h_; clear h_
      obtain ⟨s2, hput, h_⟩ := ob_some h; clear h; have h := h_; clear h_
      cases h
      obtain ⟨hlt, _, hseg, _, hnx⟩ := look_spec hlk
      obtain ⟨_, hseg2, hnx2, _⟩ := putO_spec hput
      refine ⟨[n] ++ [n], [n] ++ [], hseg.trans hseg2, fun m H W act K hg ha hf hr hK => ?_⟩
      have h1 := rdo_spec hx hp hr (by simp [ho, Op.operands]) hg.glob
      have h2 := rdo_spec hk' hq hr (by simp [ho, Op.operands]) hg.glob
      have h3 := rdo_spec hy hva hr (by simp [ho, Op.operands]) hg.glob
      generalize hzx : act.eval x = zx at h1
      generalize hzk : act.eval k = zk at h2
      generalize hzy : act.eval y = zy at h3
      cases h1; cases h2
      rename_i b hb
      obtain ⟨b', en, clock, hb', hh, hlen, hent, hne⟩ := mapo_obj hlk ha (by simp) hg
      rw [hb] at hb'; cases hb'
      have hku := isI64_spec hk
      have hfin : ∃ r, findA kv es = some r := by
        have key : ∀ (es : List (AV × AV)) es', setA kv va es = some es' → ∃ r, findA kv es = some r := by
          intro es
          induction es with
          | nil => intro es' _; exact ⟨none, rfl⟩
          | cons e es ih =>
            intro es' h
            have h' : (match (generalizing := false) e.1 with
              | .int .i64 j => Bool.rec (ob (setA kv va es) fun es => some (e :: es)) (some ((e.1, va) :: es)) (beqI kv j)
              | _ => none) = some es' := h
            have hfd : findA kv (e :: es) = (match (generalizing := false) e.1 with
              | .int .i64 j => Bool.rec (findA kv es) (some (some e.2)) (beqI kv j)
              | _ => none) := rfl
            rw [hfd]
            split at h'
            · rename_i j hj
              rcases rec_two h' with ⟨h1, h2⟩ | ⟨h1, h2⟩
              · obtain ⟨es2, h3, _⟩ := ob_some h2
                obtain ⟨r, hr⟩ := ih _ h3
                exact ⟨r, by simp only [h1, hr]⟩
              · exact ⟨some e.2, by simp only [h1]⟩
            · cases h'
        exact key es es' hset
      obtain ⟨f, hfind⟩ := hfin
      have hdone : ∀ (en' : Array MapEntry) (clock' : Nat), (execOp act.eval o).run P W = .ok .skip { W with heap := W.heap.setIfInBounds b (.map en' clock') } → OR P m (.mapo es') (.map en' clock') → OpOut P K ((execOp act.eval o).run P W) := by
        intro en' clock' hrun hor
        rw [hrun]
        obtain ⟨hblt, _⟩ := Array.getElem?_eq_some_iff.1 hh
        have hst := Stp.put (w0 := w0) (P := P) hput hg hne hb (W' := { W with heap := W.heap.setIfInBounds b (.map en' clock') }) (fun k hk => by simp [Array.getElem?_setIfInBounds, Ne.symm hk]) (fun x hx => by
          cases hx
          exact ⟨.map en' clock', by simp [Array.getElem?_setIfInBounds, hblt], hor, fun c el fr q => by cases q⟩)
        exact hK m _ _ (by simpa using Stp.after hseg hnx hseg2 hg hst) (.tup rfl (fun i a v ha _ => by simp at ha))
      have hsetobj : ∀ ob, (setObj b ob).run P W = .ok () { W with heap := W.heap.setIfInBounds b ob } := fun ob => by simp [setObj, Sem.run, hh]
      rcases find_spec (m := m) (v := va) 0 hfind hlen (fun j e x he hx => hent j e x he (by rw [← Array.getElem?_toList]; exact hx)) with ⟨rfl, a2, a3⟩ | ⟨j, yv, u, rfl, a2, a3, a4, a5, es2, a6, a7, a8⟩
      · rw [hset] at a3
        cases a3
        refine hdone (en.push { key := .int .i64 kv, val := zy, born := clock }) (clock + 1) ?_ ?_
        · have hfk : (Instr.findKey kt (.int .i64 kv) en.toList).run P W = .ok none W := by
            simp [Instr.findKey, run_und hku, a2]
          simp only [execOp, ho, hzx, hzk, hzy, Instr.mapUpdate, Sem.run_bind, run_und ht, Result.andThen_ok, run_getObj_map hh, Sem.run_pure, run_checkKey_int hku, hfk, hsetobj]
        · refine .mapo (by simp [hlen]) (fun i e x he hx => ?_)
          rcases Nat.lt_or_ge i es.length with hi | hi
          · rw [List.getElem?_append_left hi] at he
            rw [Array.getElem?_push, if_neg (by omega)] at hx
            exact hent i e x he hx
          · rw [List.getElem?_append_right hi] at he
            have : i = es.length := by
              rcases Nat.lt_or_ge 0 (i - es.length) with h | h
              · rw [List.getElem?_eq_none (by simp; omega)] at he; cases he
              · omega
            subst this
            rw [Array.getElem?_push, if_pos hlen] at hx
            simp at he hx
            subst he; subst hx
            exact ⟨.int _ _, h3⟩
      · rw [hset] at a6
        cases a6
        rw [Array.getElem?_toList] at a2
        obtain ⟨hjlt, hjy⟩ := Array.getElem?_eq_some_iff.1 a2
        refine hdone (en.modify j fun e => { e with key := .int .i64 kv, val := zy }) clock ?_ ?_
        · have hfk : (Instr.findKey kt (.int .i64 kv) en.toList).run P W = .ok (some (j, yv.val)) W := by
            simp [Instr.findKey, run_und hku, a5]
          have hkts : (Instr.keyThatStays (.int .i64 kv) (.int .i64 kv)).run P W = .ok (.int .i64 kv) W := by
            have : Instr.sameBits 10000 (.int .i64 kv) (.int .i64 kv) = true := by
              have : ∀ d, Instr.sameBits d (.int .i64 kv) (.int .i64 kv) = true := fun d => by cases d <;> simp [Instr.sameBits]
              exact this 10000
            simp [Instr.keyThatStays, this]
          simp only [execOp, ho, hzx, hzk, hzy, Instr.mapUpdate, Sem.run_bind, run_und ht, Result.andThen_ok, run_getObj_map hh, Sem.run_pure, run_checkKey_int hku, hfk, a2, Option.map_some, Option.getD_some, a3, hkts, hsetobj]
        · refine .mapo (by simp [a7, hlen]) (fun i e x he hx => ?_)
          rw [a8] at he
          rw [Array.getElem?_modify] at hx
          by_cases hij : i = j
          · subst hij
            rw [if_pos rfl] at he hx
            rw [a2] at hx
            cases hes : es[i]? with
            | none => rw [hes] at he; cases he
            | some e0 =>
              rw [hes] at he
              cases he; cases hx
              obtain ⟨q1, _⟩ := hent i e0 yv hes a2
              rw [a3] at q1
              exact ⟨q1, h3⟩
          · rw [if_neg hij] at he
            rw [if_neg (Ne.symm hij)] at hx
            exact hent i e x he hx
    · cases h
  · cases h
end
end Go.Proofs.YtjckgagkkknmnaaDoor.Rk
/-
  Reckoning a program in the kernel: calls; all operations together. Nothing of the program.
-/
namespace Go.Proofs.YtjckgagkkknmnaaDoor.Rk
set_option linter.unusedVariables false
set_option linter.unusedSimpArgs false
open Go
set_option maxHeartbeats 1000000
set_option linter.unusedSimpArgs false

/-- Calls do in the model what is reckoned. -/
def ClOk (w0 : World) (P : Program) (cl : Nat → List AV → St → Option (AV × St)) : Prop := ∀ f args s v s', cl f args s = some (v, s') →
  (∃ fn, P.funcs[f]? = some fn ∧ fn.body.isNone = false ∧ (fn.name == "runtime.NumGoroutine") = false) ∧
  ∃ T Wr, Seg s s' T Wr ∧ ∀ (m : Tl) (H : Hp) (W : World) (vals : List Value) (R : Ending → World → Prop), Good w0 P P.globals.size m H W → Agree H s T → Fresh m s s' → LR m args vals →
    (∀ m' v' W', Stp w0 P P.globals.size s s' Wr m m' H W W' → VR m' v v' → R (.returned v') W') → CallsIn Fence.wide 0 P f ⟨vals⟩ W R
def YlOk (w0 : World) (P : Program) (yl : Nat → List AV → St → Option (AV × St)) : Prop := ∀ l args s v s', yl l args s = some (v, s') →
  ∃ T Wr, Seg s s' T Wr ∧ ∀ (m : Tl) (H : Hp) (W : World) (vals : List Value) (b : Nat) (R : Ending → World → Prop), Good w0 P P.globals.size m H W → Agree H s T → Fresh m s s' → LR m args vals → m l = some b →
    (∀ m' v' W', Stp w0 P P.globals.size s s' Wr m m' H W W' → VR m' v v' → R (.returned v') W') →
    ∃ f tmps as bo, (Instr.yield b ⟨vals⟩).run P W = .ok (.round b f tmps as bo) W ∧ RoundIn Fence.wide 0 P b f tmps as bo W R
section
variable {w0 : World} {P : Program} {a : Tri AV} {s s' : St} {o : Oper} {v : AV} {cl yl : Nat → List AV → St → Option (AV × St)}
theorem OpG.call {f : Operand} {args : Array Operand} {ats : Array TypeId} {f' : Opd} {args' : List Opd} (hcl : ClOk w0 P cl) (hyl : YlOk w0 P yl) (ho : o.op = .call { callee := .value f, args := args, argTypes := ats }) (hf : cO P f = some f') (ha : cOs P args.toList = some args')
    (h : evOp cl yl a s (.call f' args') = some (v, s')) : OpG w0 P a s s' o v := by
  obtain ⟨p, hp, h_⟩ := ob_some h; clear h; have h := h_; clear h_
  obtain ⟨as, has, h_⟩ := ob_some h; clear h; have h := h_; clear h_
  have hfm : f ∈ o.op.operands.toList := by simp [ho, Op.operands, Call.operands]
  have ham : ∀ y ∈ args.toList, y ∈ o.op.operands.toList := fun y hy => by simp [ho, Op.operands, Call.operands] at hy ⊢; exact .inr hy
  split at h
  · rename_i g first caps
    obtain ⟨⟨fn, hfn, hbody, hname⟩, T, Wr, hseg, hc⟩ := hcl _ _ _ _ _ h
    refine ⟨T, Wr, hseg, fun m H W act K hg hag hfr hr hK => ?_⟩
    have h1 := rdo_spec hf hp hr hfm hg.glob
    have h2 := rdos_spec hr hg.glob ha has ham
    generalize hz : act.eval f = z at h1
    cases h1
    rename_i vs us hl hv hl' hv'
    have hrun : (execOp act.eval o).run P W = .ok (.enter g ⟨vs ++ args.toList.map act.eval ++ us⟩) W := by
      have e : (Array.mk vs ++ args.map act.eval ++ Array.mk us) = ⟨vs ++ args.toList.map act.eval ++ us⟩ := by
        apply Array.ext'; simp
      simp only [execOp, ho, resolve, hz, Deferred.ofValue, Sem.run_bind, Sem.run_pure, Result.andThen_ok, invoke, callFunc, run_program, hfn, hname, Bool.false_eq_true, if_false, hbody, e]
    rw [hrun]
    exact hc m H W _ _ hg hag hfr ((LR.append (LR.append ⟨hl, hv⟩ h2) ⟨hl', hv'⟩)) (fun m' v' W' hst hvr => ⟨v', rfl, hK m' v' W' hst hvr⟩)
  · rename_i l
    obtain ⟨T, Wr, hseg, hc⟩ := hyl _ _ _ _ _ h
    refine ⟨T, Wr, hseg, fun m H W act K hg hag hfr hr hK => ?_⟩
    have h1 := rdo_spec hf hp hr hfm hg.glob
    have h2 := rdos_spec hr hg.glob ha has ham
    generalize hz : act.eval f = z at h1
    cases h1
    rename_i b hb
    obtain ⟨fn, tmps, as', bo, hy, hround⟩ := hc m H W _ b (fun e w' => ∃ v, e = .returned v ∧ K v w') hg hag hfr h2 hb (fun m' v' W' hst hvr => ⟨v', rfl, hK m' v' W' hst hvr⟩)
    have hrun : (execOp act.eval o).run P W = .ok (.round b fn tmps as' bo) W := by
      have e : args.map act.eval = ⟨args.toList.map act.eval⟩ := by
        apply Array.ext'; simp
      simp only [execOp, ho, resolve, hz, Deferred.ofValue, Sem.run_bind, Sem.run_pure, Result.andThen_ok, invoke, e]
      simpa using hy
    rw [hrun]
    exact hround
  · cases h
theorem bind_inv {α β : Type} {x : Option α} {f : α → Option β} {r : β} (h : x.bind f = some r) : ∃ y, x = some y ∧ f y = some r := by
  cases x with
  | none => cases h
  | some y => exact ⟨y, rfl, h⟩
theorem map_inv {α β : Type} {x : Option α} {f : α → β} {r : β} (h : x.map f = some r) : ∃ y, x = some y ∧ r = f y := by
  cases x with
  | none => cases h
  | some y => cases h; exact ⟨y, rfl, rfl⟩
theorem opCall_ok {c : Call} {eo : EOp} (hcl : ClOk w0 P cl) (hyl : YlOk w0 P yl) (ho : o.op = .call c) (hc : cCall P c = some eo) (h : evOp cl yl a s eo = some (v, s')) : OpG w0 P a s s' o v := by
  obtain ⟨callee, args, ats⟩ := c
  unfold cCall at hc
  split at hc
  · rename_i f hcal
    dsimp only at hcal hc
    subst hcal
    obtain ⟨f', hf, hc_⟩ := bind_inv hc; clear hc; have hc := hc_; clear hc_
    obtain ⟨as', has, rfl⟩ := map_inv hc
    exact OpG.call hcl hyl ho hf has h
  · rename_i hcal
    dsimp only at hcal hc
    subst hcal
    split at hc
    · rename_i t x hats hargs
      have ea : args = #[x] := by apply Array.ext'; simpa using hargs
      have et : ats = #[t] := by apply Array.ext'; simpa using hats
      subst ea; subst et
      split at hc
      · rename_i ht
        obtain ⟨x', hx, rfl⟩ := map_inv hc
        exact OpG.len ho (.inl ⟨rfl, ht⟩) hx h
      · rename_i e ht
        obtain ⟨x', hx, rfl⟩ := map_inv hc
        exact OpG.len ho (.inr ⟨rfl, _, ht⟩) hx h
      · rename_i n e ht
        obtain ⟨x', hx, rfl⟩ := map_inv hc
        refine OpG.lit (y := .int .i64 n) (u := .int .i64 n) (fun act W => ?_) (fun m => .int _ _) h
        simp [execOp, ho, resolve, invoke, builtin, Builtin.len_, run_und ht, goInt]
      · cases hc
    · cases hc
  · rename_i hcal
    dsimp only at hcal hc
    subst hcal
    split at hc
    · rename_i t u x y hats hargs
      have ea : args = #[x, y] := by apply Array.ext'; simpa using hargs
      have et : ats = #[t, u] := by apply Array.ext'; simpa using hats
      subst ea; subst et
      split at hc
      · cases hc
      · rename_i e d hnot ht hu
        split at hc
        · rename_i i hi
          split at hc
          · cases hc
          · rename_i hno
            simp only [Bool.or_eq_true, decide_eq_true_eq, not_or] at hno
            obtain ⟨⟨⟨h0, h1⟩, h2⟩, h3⟩ := hno
            obtain ⟨x', hx, hc_⟩ := bind_inv hc; clear hc; have hc := hc_; clear hc_
            obtain ⟨y', hy, rfl⟩ := map_inv hc
            cases hz : zeroT P e with
            | none => rw [hz] at h3; exact absurd rfl h3
            | some z =>
              rw [hz] at h3
              simp only [Option.all_some, decide_eq_true_eq, ne_eq, Decidable.not_not] at h3
              exact OpG.app ho ht hu (fun k hk => hnot k hk) hi hz h3 h0 h1 (by omega) hx hy h
        · cases hc
      · cases hc
    · cases hc
  · rename_i hcal
    dsimp only at hcal hc
    subst hcal
    split at hc
    · rename_i t u x y hats hargs
      have ea : args = #[x, y] := by apply Array.ext'; simpa using hargs
      have et : ats = #[t, u] := by apply Array.ext'; simpa using hats
      subst ea; subst et
      split at hc
      · rename_i e ht
        obtain ⟨n, hn, hc_⟩ := bind_inv hc; clear hc; have hc := hc_; clear hc_
        obtain ⟨x', hx, hc_⟩ := bind_inv hc; clear hc; have hc := hc_; clear hc_
        obtain ⟨y', hy, rfl⟩ := map_inv hc
        exact OpG.copy ho ht hn hx hy h
      · cases hc
    · cases hc
  · rename_i hcal
    dsimp only at hcal hc
    subst hcal
    split at hc
    · rename_i x y hargs
      have ea : args = #[x, y] := by apply Array.ext'; simpa using hargs
      subst ea
      obtain ⟨x', hx, hc_⟩ := bind_inv hc; clear hc; have hc := hc_; clear hc_
      obtain ⟨y', hy, rfl⟩ := map_inv hc
      exact OpG.maxmin (mx := true) ho hx hy h
    · cases hc
  · rename_i hcal
    dsimp only at hcal hc
    subst hcal
    split at hc
    · rename_i x y hargs
      have ea : args = #[x, y] := by apply Array.ext'; simpa using hargs
      subst ea
      obtain ⟨x', hx, hc_⟩ := bind_inv hc; clear hc; have hc := hc_; clear hc_
      obtain ⟨y', hy, rfl⟩ := map_inv hc
      exact OpG.maxmin (mx := false) ho hx hy h
    · cases hc
  · cases hc
theorem opBin_ok {op : BinOp} {t u : TypeId} {x y : Operand} {eo : EOp} (ho : o.op = .binOp op t x y u) (hc : cBin P op t x y = some eo) (h : evOp cl yl a s eo = some (v, s')) : OpG w0 P a s s' o v := by
  have key : ∀ {eo}, ((cO P x).bind fun x => (cO P y).map fun y => EOp.bin op x y) = some eo → evOp cl yl a s eo = some (v, s') → OpG w0 P a s s' o v := by
    intro eo hc h
    obtain ⟨x', hx, hc_⟩ := bind_inv hc; clear hc; have hc := hc_; clear hc_
    obtain ⟨y', hy, rfl⟩ := map_inv hc
    exact OpG.bin ho hx hy h
  unfold cBin at hc
  split at hc
  · split at hc
    · exact key hc h
    · exact key hc h
    · obtain ⟨e, he, hc_⟩ := bind_inv hc; clear hc; have hc := hc_; clear hc_
      obtain ⟨x', hx, hc_⟩ := bind_inv hc; clear hc; have hc := hc_; clear hc_
      obtain ⟨y', hy, rfl⟩ := map_inv hc
      exact OpG.eq (neg := false) ho he hx hy h
  · split at hc
    · exact key hc h
    · exact key hc h
    · obtain ⟨e, he, hc_⟩ := bind_inv hc; clear hc; have hc := hc_; clear hc_
      obtain ⟨x', hx, hc_⟩ := bind_inv hc; clear hc; have hc := hc_; clear hc_
      obtain ⟨y', hy, rfl⟩ := map_inv hc
      exact OpG.eq (neg := true) ho he hx hy h
  · exact key hc h
theorem op_ok {eo : EOp} (hcl : ClOk w0 P cl) (hyl : YlOk w0 P yl) (hc : cOp P o.op = some eo) (h : evOp cl yl a s eo = some (v, s')) : OpG w0 P a s s' o v := by
  cases hop : o.op <;> rw [hop] at hc <;> simp only [cOp] at hc <;> (try (cases hc; done))
  case move x => obtain ⟨x', hx, rfl⟩ := map_inv hc; exact OpG.mov (.inl hop) hx h
  case assign x => obtain ⟨x', hx, rfl⟩ := map_inv hc; exact OpG.mov (.inr hop) hx h
  case pick c x y =>
    obtain ⟨c', hc', hc_⟩ := bind_inv hc; clear hc; have hc := hc_; clear hc_
    obtain ⟨x', hx, hc_⟩ := bind_inv hc; clear hc; have hc := hc_; clear hc_
    obtain ⟨y', hy, rfl⟩ := map_inv hc
    exact OpG.pick hop hc' hx hy h
  case alloc t => obtain ⟨z, hz, rfl⟩ := map_inv hc; exact OpG.alloc hop hz h
  case box t x => obtain ⟨x', hx, rfl⟩ := map_inv hc; exact OpG.box hop hx h
  case build t ps =>
    obtain ⟨z, hz, hc_⟩ := bind_inv hc; clear hc; have hc := hc_; clear hc_
    split at hc
    · rename_i fs ht
      obtain ⟨pl, hpl, hc_⟩ := bind_inv hc; clear hc; have hc := hc_; clear hc_
      obtain ⟨l, hl, rfl⟩ := map_inv hc
      exact OpG.buildS hop hz ht hpl hl h
    · rename_i n e ht
      obtain ⟨k, hk, hc_⟩ := bind_inv hc; clear hc; have hc := hc_; clear hc_
      obtain ⟨l, hl, rfl⟩ := map_inv hc
      exact OpG.buildA hop hz ht hk hl h
    · cases hc
  case buildSlice t len ps =>
    split at hc
    · rename_i e ht
      obtain ⟨n, hn, hc_⟩ := bind_inv hc; clear hc; have hc := hc_; clear hc_
      split at hc
      · rename_i h0
        subst h0
        split at hc
        · rename_i hps
          cases hc
          exact OpG.buildSl0 hop ht hn hps h
        · cases hc
      · split at hc
        · cases hc
        · rename_i hno
          simp only [Bool.or_eq_true, decide_eq_true_eq, not_or] at hno
          obtain ⟨z, hz, hc_⟩ := bind_inv hc; clear hc; have hc := hc_; clear hc_
          split at hc
          · rename_i hzl
            obtain ⟨l, hl, rfl⟩ := map_inv hc
            exact OpG.buildSl hop ht hn hno.1 (by omega) hz hzl hl h
          · cases hc
    · cases hc
  case load t x =>
    obtain ⟨n, hn, hc_⟩ := bind_inv hc; clear hc; have hc := hc_; clear hc_
    obtain ⟨x', hx, rfl⟩ := map_inv hc
    cases n with
    | none => exact OpG.load1 hop hn hx h
    | some k => exact OpG.loadN hop hn hx h
  case store t x y =>
    obtain ⟨n, hn, hc_⟩ := bind_inv hc; clear hc; have hc := hc_; clear hc_
    obtain ⟨x', hx, hc_⟩ := bind_inv hc; clear hc; have hc := hc_; clear hc_
    obtain ⟨y', hy, rfl⟩ := map_inv hc
    exact OpG.store hop hn hx hy h
  case nilCheck x => obtain ⟨x', hx, rfl⟩ := map_inv hc; exact OpG.nilck hop hx h
  case binOp op t x y u => exact opBin_ok hop hc h
  case unOp op t x => obtain ⟨x', hx, rfl⟩ := map_inv hc; exact OpG.un hop hx h
  case convert t u x =>
    split at hc
    · rename_i d k ht hu
      obtain ⟨x', hx, rfl⟩ := map_inv hc
      exact OpG.conv hop ht hu hx h
    · rename_i e ht hu
      split at hc
      · rename_i he
        obtain ⟨x', hx, rfl⟩ := map_inv hc
        exact OpG.b2s hop ht hu he hx h
      · cases hc
    · cases hc
  case makeFunc fn first caps =>
    cases fn <;> simp only [cOp] at hc <;> try cases hc
    obtain ⟨x', hx, hc_⟩ := bind_inv hc; clear hc; have hc := hc_; clear hc_
    obtain ⟨y', hy, rfl⟩ := map_inv hc
    exact OpG.mkfn hop hx hy h
  case makeSlice t l c =>
    split at hc
    · rename_i e ht
      split at hc
      · rename_i i z hi hz
        split at hc
        · rename_i hcond
          simp only [Bool.and_eq_true, decide_eq_true_eq] at hcond
          obtain ⟨l', hl, hc_⟩ := bind_inv hc; clear hc; have hc := hc_; clear hc_
          obtain ⟨c', hc', rfl⟩ := map_inv hc
          exact OpG.mksl hop ht hi hz hcond.1 hcond.2 hl hc' h
        · cases hc
      · cases hc
    · cases hc
  case slice t x lo hi mx =>
    cases mx with
    | none =>
      simp only [cOp] at hc
      obtain ⟨x', hx, hc_⟩ := bind_inv hc; clear hc; have hc := hc_; clear hc_
      obtain ⟨lo', hlo, hc_⟩ := bind_inv hc; clear hc; have hc := hc_; clear hc_
      obtain ⟨hi', hhi, hc_⟩ := bind_inv hc; clear hc; have hc := hc_; clear hc_
      split at hc
      · rename_i ht
        cases hc
        exact OpG.slcS hop ht hx hlo hhi h
      · rename_i e ht
        obtain ⟨n, hn, rfl⟩ := map_inv hc
        exact OpG.slc hop ht hn hx hlo hhi h
      · rename_i n e ht
        obtain ⟨k, hk, rfl⟩ := map_inv hc
        exact OpG.slcA hop ht hk hx hlo hhi h
      · cases hc
    | some mx =>
      cases hi with
      | none => simp only [cOp] at hc; cases hc
      | some hi =>
        simp only [cOp] at hc
        obtain ⟨x', hx, hc_⟩ := bind_inv hc; clear hc; have hc := hc_; clear hc_
        obtain ⟨lo', hlo, hc_⟩ := bind_inv hc; clear hc; have hc := hc_; clear hc_
        obtain ⟨hi', hhi, hc_⟩ := bind_inv hc; clear hc; have hc := hc_; clear hc_
        obtain ⟨mx', hmx, hc_⟩ := bind_inv hc; clear hc; have hc := hc_; clear hc_
        split at hc
        · rename_i e ht
          obtain ⟨n, hn, rfl⟩ := map_inv hc
          exact OpG.slc3 hop ht hn hx hlo hhi hmx h
        · cases hc
  case fieldAddr st x f =>
    split at hc
    · rename_i fs hs
      split at hc
      · rename_i fd hfd
        obtain ⟨n, hn, hc_⟩ := bind_inv hc; clear hc; have hc := hc_; clear hc_
        split at hc
        · cases hc
        · rename_i h0
          obtain ⟨x', hx, rfl⟩ := map_inv hc
          exact OpG.faddr hop hs hfd hn h0 hx h
      · cases hc
    · cases hc
  case field t x f =>
    split at hc
    · rename_i fs hs
      split at hc
      · rename_i fd hfd
        obtain ⟨n, hn, hc_⟩ := bind_inv hc; clear hc; have hc := hc_; clear hc_
        obtain ⟨x', hx, rfl⟩ := map_inv hc
        exact OpG.field hop hs hfd hn hx h
      · cases hc
    · cases hc
  case indexAddr t x i =>
    split at hc
    · rename_i len e ht
      obtain ⟨n, hn, hc_⟩ := bind_inv hc; clear hc; have hc := hc_; clear hc_
      obtain ⟨x', hx, hc_⟩ := bind_inv hc; clear hc; have hc := hc_; clear hc_
      obtain ⟨i', hi, rfl⟩ := map_inv hc
      exact OpG.iaddrA hop ht hn hx hi h
    · rename_i e ht
      obtain ⟨n, hn, hc_⟩ := bind_inv hc; clear hc; have hc := hc_; clear hc_
      obtain ⟨x', hx, hc_⟩ := bind_inv hc; clear hc; have hc := hc_; clear hc_
      obtain ⟨i', hi, rfl⟩ := map_inv hc
      exact OpG.iaddrS hop ht hn hx hi h
    · cases hc
  case index t x i =>
    split at hc
    · rename_i len e ht
      obtain ⟨k, hk, hc_⟩ := bind_inv hc; clear hc; have hc := hc_; clear hc_
      obtain ⟨n, hn, hc_⟩ := bind_inv hc; clear hc; have hc := hc_; clear hc_
      obtain ⟨x', hx, hc_⟩ := bind_inv hc; clear hc; have hc := hc_; clear hc_
      obtain ⟨i', hi, rfl⟩ := map_inv hc
      exact OpG.idxA hop ht hk hn hx hi h
    · rename_i ht
      obtain ⟨x', hx, hc_⟩ := bind_inv hc; clear hc; have hc := hc_; clear hc_
      obtain ⟨i', hi, rfl⟩ := map_inv hc
      exact OpG.idxS hop ht hx hi h
    · cases hc
  case extract x i => obtain ⟨x', hx, rfl⟩ := map_inv hc; exact OpG.ext hop hx h
  case call c => exact opCall_ok hcl hyl hop hc h
  case makeMap t r =>
    cases r <;> simp only [cOp] at hc <;> cases hc
    exact OpG.mkmap hop h
  case lookup t x k ok =>
    split at hc
    · rename_i kt e ht
      split at hc
      · rename_i hk
        obtain ⟨z, hz, hc_⟩ := bind_inv hc; clear hc; have hc := hc_; clear hc_
        obtain ⟨za, hza, hc_⟩ := bind_inv hc; clear hc; have hc := hc_; clear hc_
        obtain ⟨x', hx, hc_⟩ := bind_inv hc; clear hc; have hc := hc_; clear hc_
        obtain ⟨k', hk', rfl⟩ := map_inv hc
        exact OpG.lookup hop ht hk hz hza hx hk' h
      · cases hc
    · cases hc
  case mapUpdate t x k y =>
    split at hc
    · rename_i kt e ht
      split at hc
      · rename_i hk
        obtain ⟨x', hx, hc_⟩ := bind_inv hc; clear hc; have hc := hc_; clear hc_
        obtain ⟨k', hk', hc_⟩ := bind_inv hc; clear hc; have hc := hc_; clear hc_
        obtain ⟨y', hy, rfl⟩ := map_inv hc
        exact OpG.mapup hop ht hk hx hk' hy h
      · cases hc
    · cases hc
end
end Go.Proofs.YtjckgagkkknmnaaDoor.Rk
/-
  Reckoning a program in the kernel: an operation of a region; a region in its text's order. Nothing of the program.
-/
namespace Go.Proofs.YtjckgagkkknmnaaDoor.Rk
set_option linter.unusedVariables false
set_option linter.unusedSimpArgs false
open Go
set_option maxHeartbeats 1000000
set_option linter.unusedSimpArgs false

def wf (ro : Option Nat) : Fence := { fn := fun _ => True, depth := none, alive := false, round := ro }
section
variable {w0 : World} {P : Program} {a a' : Tri AV} {s s' : St} {o : Oper} {v : AV} {cl yl : Nat → List AV → St → Option (AV × St)}
theorem wpIn_of_out {ro : Option Nat} {act : Act} {W : World} {next : Act → World → Prop} {Q : Exit → Act → World → Prop} (hdef : ∀ c, o.op ≠ .defer c) (h : OpOut P (fun v w => next (act.put o.dst v) w) ((execOp act.eval o).run P W)) : o.wpIn (wf ro) 0 P act W next Q := by
  refine ⟨fun _ _ => trivial, ?_⟩
  rw [show (wf ro).round = ro from rfl, Oper.semAt_eq ro act.eval o hdef]
  generalize (execOp act.eval o).run P W = r at h
  unfold OpOut at h
  split at h
  · exact h
  · exact h
  · refine ⟨(fun hd => by cases hd), ?_⟩
    have h' : CallsIn (wf ro) 0 P _ _ _ _ := h
    exact h'.mono fun e w' he => by obtain ⟨v, rfl, hk⟩ := he; exact hk
  · refine ⟨(fun hd => by cases hd), ?_⟩
    have h' : RoundIn (wf ro) 0 P _ _ _ _ _ _ _ := h
    exact h'.mono fun e w' he => by obtain ⟨v, rfl, hk⟩ := he; exact hk
  · exact h.elim
/-- The slots of a list hold what is reckoned. -/
def RdAll (m : Tl) (a : Tri AV) (act : Act) (L : List Nat) : Prop := ∀ t ∈ L, ∀ v, a.get (pt t) = some v → ∃ u, act.tmps[t]? = some u ∧ VR m v u
def opSlots (o : Oper) : List Nat := o.op.operands.toList.filterMap fun | .tmp t => some t | _ => none
def gdSlots (ops : Array Oper) (o : Oper) : List Nat := match o.guard with | some (j, _) => ((ops[j]?).bind (·.dst)).toList | none => []
theorem RdAll.rdok {m : Tl} {act : Act} {L : List Nat} (h : RdAll m a act L) (hs : ∀ t ∈ opSlots o, t ∈ L) : RdOk m a act o.op.operands.toList := by
  intro t v ht hv
  obtain ⟨u, hu, hv'⟩ := h t (hs t (by unfold opSlots; exact List.mem_filterMap.2 ⟨_, ht, rfl⟩)) v hv
  have : act.eval (.tmp t) = u := by simp [Act.eval, Array.getD_eq_getD_getElem?, hu]
  rw [this]; exact hv'
theorem defer_no {c : Call} : cOp P (.defer c) = none := rfl
/-- One operation, its guard and all. -/
theorem oper_ok {N : Nat} {ops : Array Oper} {anc : Nat} {eo : EOper} {ro : Option Nat} (hcl : ClOk w0 P cl) (hyl : YlOk w0 P yl) (hc : cOper P N ops anc o = some eo) (h : evOper cl yl eo a s = some (a', s')) :
    eo.dst = o.dst.map ptc ∧ eo.anc = anc ∧ (∀ d, o.dst = some d → d < N) ∧ ∃ T Wr v, Seg s s' T Wr ∧ (∀ t, a'.get (pt t) = if o.dst = some t then some v else a.get (pt t)) ∧
      ∀ (m : Tl) (H : Hp) (W : World) (act : Act) (K : Act → World → Prop) (Q : Exit → Act → World → Prop) (i : Nat), ops[i]? = some o → Good w0 P P.globals.size m H W → Agree H s T → Fresh m s s' → RdAll m a act (opSlots o ++ gdSlots ops o) →
        (∀ m' v' W', Stp w0 P P.globals.size s s' Wr m m' H W W' → VR m' v v' → K (act.put o.dst v') W') → wpOpIn (wf ro) 0 P ops Q i K act W := by
  unfold cOper at hc
  split at hc
  · rename_i hdst
    obtain ⟨g, hg, rfl⟩ := map_inv hc
    refine ⟨rfl, rfl, fun d hd => by rw [hd] at hdst; simpa using hdst, ?_⟩
    obtain ⟨b, hb, h_⟩ := ob_some h; clear h; have h := h_; clear h_
    have hput : ∀ {x : AV} {b : Tri AV} {s0 s1 : St}, putA (o.dst.map ptc) x a s0 = some (b, s1) → s1 = s0 ∧ ∀ t, b.get (pt t) = if o.dst = some t then some x else a.get (pt t) := by
      intro x b s0 s1 hp
      unfold putA at hp
      cases hd : o.dst with
      | none => rw [hd] at hp; cases hp; exact ⟨rfl, fun t => by simp⟩
      | some d =>
        rw [hd] at hp
        have hp := fT_some hp
        cases hp
        refine ⟨rfl, fun t => ?_⟩
        rw [ptc_eq]
        by_cases ht : d = t
        · subst ht; rw [if_pos rfl, Tri.set_same]
        · rw [if_neg (fun e => ht (by cases e; rfl)), Tri.set_other _ _ _ _ (fun e => ht (pt_inj e))]
    -- the guard
    have hgd : ∀ (m : Tl) (act : Act), RdAll m a act (gdSlots ops o) → Region.wanted o (yielded ops act.tmps) = b := by
      intro m act hr
      unfold Region.wanted
      cases hgo : o.guard with
      | none =>
        rw [hgo] at hg
        simp only [cGuard, Option.some.injEq] at hg
        subst hg
        simp only [guardA, Option.some.injEq] at hb
        simp [hb]
      | some jb =>
        obtain ⟨j, w⟩ := jb
        rw [hgo] at hg
        simp only [cGuard] at hg
        cases hd : (ops[j]?).bind (·.dst) with
        | none => rw [hd] at hg; cases hg
        | some d =>
          rw [hd] at hg
          cases hg
          obtain ⟨x, hx, hb⟩ := ob_some hb
          rw [ptc_eq] at hx
          obtain ⟨u, hu, hv⟩ := hr d (by unfold gdSlots; rw [hgo]; simp [hd]) x hx
          have hy : yielded ops act.tmps j = match u with | .bool b => some b | _ => none := by
            unfold yielded
            rw [hd]
            simp only [Option.bind_some, hu]
            cases u <;> rfl
          cases x <;> simp only at hb <;> try cases hb
          · cases hv
            rename_i c
            simp only [hy]
            cases w <;> cases c <;> rfl
          · cases hv
            simp only [hy]
            rfl
    rcases rec_two h with ⟨rfl, h⟩ | ⟨rfl, h⟩
    · obtain ⟨rfl, hget⟩ := hput h
      refine ⟨[], [], .tup [], Seg.refl _, hget, fun m H W act K Q i hi hg' ha hf hr hK => ?_⟩
      have hw := hgd m act (fun t ht => hr t (List.mem_append.2 (.inr ht)))
      unfold wpOpIn
      simp only [hi, hw, Bool.false_eq_true, if_false]
      exact ⟨fun _ _ => trivial, hK m _ W (Stp.refl hg') (.tup rfl (fun i a v ha _ => by simp at ha))⟩
    · obtain ⟨⟨x, s1⟩, hop, h_⟩ := ob_some h; clear h; have h := h_; clear h_
      obtain ⟨rfl, hget⟩ := hput h
      cases hco : cOp P o.op with
      | none => rw [hco] at hop; cases hop
      | some e =>
        rw [hco] at hop
        obtain ⟨T, Wr, hseg, hrun⟩ := op_ok (o := o) hcl hyl hco hop
        refine ⟨T, Wr, x, hseg, hget, fun m H W act K Q i hi hg' ha hf hr hK => ?_⟩
        have hw := hgd m act (fun t ht => hr t (List.mem_append.2 (.inr ht)))
        unfold wpOpIn
        simp only [hi, hw, if_true]
        exact wpIn_of_out (fun c hc => by rw [hc, defer_no] at hco; cases hco) (hrun m H W act _ hg' ha hf (hr.rdok (fun t ht => List.mem_append.2 (.inl ht))) hK)
  · cases hc
theorem AT.rdall {N : Nat} {m : Tl} {act : Act} (h : AT N m a act.tmps) (L : List Nat) : RdAll m a act L := fun t _ v hv => h.2 t v hv
theorem AT.put {N : Nat} {m : Tl} {act : Act} {d : Option Nat} {v' : Value} (h : AT N m a act.tmps) (hd : ∀ t, d = some t → t < N) (hget : ∀ t, a'.get (pt t) = if d = some t then some v else a.get (pt t)) (hv : VR m v v') : AT N m a' (act.put d v').tmps := by
  cases d with
  | none =>
    refine ⟨h.1, fun t x hx => ?_⟩
    rw [hget] at hx
    simp at hx
    exact h.2 t x hx
  | some d =>
    have hdN := hd d rfl
    refine ⟨by simp [Act.put]; exact h.1, fun t x hx => ?_⟩
    rw [hget] at hx
    by_cases ht : d = t
    · subst ht
      rw [if_pos rfl] at hx
      cases hx
      exact ⟨v', by simp [Act.put, Array.getElem?_setIfInBounds, Nat.lt_of_lt_of_le hdN h.1], hv⟩
    · rw [if_neg (fun e => ht (by cases e; rfl))] at hx
      obtain ⟨u, hu, hv'⟩ := h.2 t x hx
      exact ⟨u, by simp [Act.put, Array.getElem?_setIfInBounds, ht, hu], hv'⟩
/-- A region in its text's order. -/
theorem ops_seq {N : Nat} {ops : Array Oper} {anc : Array Nat} {ro : Option Nat} (hcl : ClOk w0 P cl) (hyl : YlOk w0 P yl) : ∀ (l : List Oper) (i : Nat) (es : List EOper) (a a' : Tri AV) (s s' : St), (∀ k, l[k]? = ops[i + k]?) → cOpers P N ops anc l i = some es → evOps cl yl es a s = some (a', s') →
    ∃ T Wr, Seg s s' T Wr ∧ ∀ (m : Tl) (H : Hp) (W : World) (act : Act) (Q : Exit → Act → World → Prop), Good w0 P P.globals.size m H W → Agree H s T → Fresh m s s' → AT N m a act.tmps →
      (∀ m' act' W', Stp w0 P P.globals.size s s' Wr m m' H W W' → AT N m' a' act'.tmps → act'.defers = act.defers → Q .normal act' W') → wpOpsIn (wf ro) 0 P ops Q (List.range' i l.length) act W
  | [], i, es, a, a', s, s', hl, hc, h => by
    cases hc
    cases h
    exact ⟨[], [], Seg.refl s, fun m H W act Q hg ha hf hat hQ => hQ m act W (Stp.refl hg) hat rfl⟩
  | o :: l, i, es, a, a', s, s', hl, hc, h => by
    unfold cOpers at hc
    split at hc
    · rename_i e es' he hes
      cases hc
      obtain ⟨⟨a1, s1⟩, h1, h_⟩ := ob_some h; clear h; have h := h_; clear h_
      obtain ⟨_, _, hdN, T1, W1, v, g1, hget, hop⟩ := oper_ok (ro := ro) hcl hyl he h1
      obtain ⟨T2, W2, g2, hrest⟩ := ops_seq hcl hyl l (i + 1) es' a1 a' s1 s' (fun k => by have := hl (k + 1); simpa [Nat.add_assoc, Nat.add_comm 1] using this) hes h
      refine ⟨T2 ++ T1, W2 ++ W1, g1.trans g2, fun m H W act Q hg ha hf hat hQ => ?_⟩
      have hoi : ops[i]? = some o := by have := hl 0; simpa using this.symm
      rw [List.length_cons, List.range'_succ, wpOpsIn_cons]
      refine hop m H W act _ Q i hoi hg ha.right (hf.right g2) (hat.rdall _) (fun m1 v' Wa hst hv => ?_)
      refine hrest m1 _ Wa _ Q hst.good (ha.left g1) (hf.left g1 hst) (AT.put (hat.mono hst.ext) hdN hget hv) (fun m2 act2 Wb hst2 hat2 hd2 => ?_)
      refine hQ m2 act2 Wb (Stp.trans g1 g2 hst hst2) hat2 (hd2.trans ?_)
      cases o.dst <;> rfl
    · cases hc
end
end Go.Proofs.YtjckgagkkknmnaaDoor.Rk
/-
  Reckoning a program in the kernel: regions that draw their order. Nothing of the program.
-/
namespace Go.Proofs.YtjckgagkkknmnaaDoor.Rk
set_option linter.unusedVariables false
set_option linter.unusedSimpArgs false
open Go
set_option maxHeartbeats 1000000
set_option linter.unusedSimpArgs false

section
variable {w0 : World} {P : Program} {ops : Array Oper} {Q : Exit → Act → World → Prop}
theorem getD_set {listed : Array Bool} {i : Nat} (hi : i < listed.size) (k : Nat) (d : Bool) : (listed.setIfInBounds i true).getD k d = if k = i then true else listed.getD k d := by
  by_cases h : k = i
  · subst h; simp [Array.getD, hi]
  · simp only [Array.getD_eq_getD_getElem?, Array.getElem?_setIfInBounds, if_neg (Ne.symm h), if_neg h]
theorem getD_in {listed : Array Bool} {i : Nat} (hi : i < listed.size) (d d' : Bool) : listed.getD i d = listed.getD i d' := by simp [Array.getD, hi]
/-- A region in any order, by an invariant over what is done. -/
theorem wpAnyIn_inv {F : Fence} {n : Nat} (Inv : (Nat → Bool) → Act → World → Prop) (hback : backs ops = true)
    (hstep : ∀ (D : Nat → Bool) (i : Nat) (o : Oper) (act : Act) (W : World), ops[i]? = some o → D i = false → (∀ e ∈ o.after.toList, Region.binds .any e = true → D e.on = true) → Inv D act W →
      wpOpIn F n P ops Q i (fun act' W' => Inv (fun k => if k = i then true else D k) act' W') act W)
    (hdone : ∀ D act W, Inv D act W → (∀ i, i < ops.size → D i = true) → Q .normal act W) :
    ∀ (fuel : Nat) (listed : Array Bool) (act : Act) (W : World), listed.size = ops.size → ((List.range ops.size).filter fun i => !listed.getD i true).length ≤ fuel → Inv (fun k => listed.getD k false) act W →
      wpAnyIn F n P .any ops Q fuel listed act W := by
  have hall : ∀ (listed : Array Bool), listed.size = ops.size → Region.ready .any ops listed = [] → ∀ i, i < ops.size → listed.getD i false = true := by
    intro listed hsz hr i
    induction i using Nat.strongRecOn with
    | _ i ih =>
      intro hi
      cases hl : listed.getD i false with
      | true => rfl
      | false =>
        exfalso
        have hmem : i ∈ Region.ready .any ops listed := by
          unfold Region.ready
          refine List.mem_filter.2 ⟨List.mem_range.2 hi, ?_⟩
          rw [getD_in (by rw [hsz]; exact hi) true false, hl]
          obtain ⟨o, ho⟩ : ∃ o, ops[i]? = some o := ⟨_, Array.getElem?_eq_getElem hi⟩
          rw [ho]
          simp only [Bool.not_false, Option.map_some, Option.getD_some, Bool.true_and]
          rw [← Array.all_toList, List.all_eq_true]
          intro e he
          have hb := List.all_eq_true.1 hback i (List.mem_range.2 hi)
          rw [ho] at hb
          have hb := List.all_eq_true.1 hb e he
          cases hbd : Region.binds .any e with
          | false => rfl
          | true =>
            rw [hbd] at hb
            simp only [Bool.not_true, Bool.false_or, decide_eq_true_eq] at hb
            rw [ih e.on hb (by omega)]
            rfl
        rw [hr] at hmem
        cases hmem
  intro fuel
  induction fuel with
  | zero =>
    intro listed act W hsz hf hI
    have hdn : ∀ i, i < ops.size → listed.getD i false = true := by
      intro i hi
      cases h : listed.getD i false with
      | true => rfl
      | false =>
        have hm : i ∈ (List.range ops.size).filter fun i => !listed.getD i true := List.mem_filter.2 ⟨List.mem_range.2 hi, by rw [getD_in (by rw [hsz]; exact hi) true false, h]; rfl⟩
        have : 0 < ((List.range ops.size).filter fun i => !listed.getD i true).length := List.length_pos_of_mem hm
        omega
    refine ⟨?_, hdone _ act W hI hdn⟩
    unfold Region.ready
    rw [List.filter_eq_nil_iff]
    intro i hi
    have hi' := List.mem_range.1 hi
    rw [getD_in (by rw [hsz]; exact hi') true false, hdn i hi']
    simp
  | succ fuel ih =>
    intro listed act W hsz hf hI
    refine ⟨fun hr => hdone _ act W hI (hall listed hsz hr), fun i hi => ?_⟩
    unfold Region.ready at hi
    obtain ⟨hi1, hi2⟩ := List.mem_filter.1 hi
    have hi' := List.mem_range.1 hi1
    obtain ⟨o, ho⟩ : ∃ o, ops[i]? = some o := ⟨_, Array.getElem?_eq_getElem hi'⟩
    rw [ho] at hi2
    simp only [Option.map_some, Option.getD_some, Bool.and_eq_true] at hi2
    obtain ⟨hl, hdeps⟩ := hi2
    have hlf : listed.getD i false = false := by rw [getD_in (by rw [hsz]; exact hi') false true]; simpa using hl
    refine wpOpIn_mono ?_ (hstep (fun k => listed.getD k false) i o act W ho hlf (fun e he hbd => ?_) hI)
    · intro act' W' hI'
      refine ih (listed.setIfInBounds i true) act' W' (by simp [hsz]) ?_ ?_
      · have hlt : ((List.range ops.size).filter fun k => !(listed.setIfInBounds i true).getD k true).length < ((List.range ops.size).filter fun k => !listed.getD k true).length := by
          have hsub : ((List.range ops.size).filter fun k => !(listed.setIfInBounds i true).getD k true) = ((List.range ops.size).filter fun k => !listed.getD k true).filter (fun k => decide (k ≠ i)) := by
            rw [List.filter_filter]
            congr 1
            funext k
            rw [getD_set (by rw [hsz]; exact hi')]
            by_cases hk : k = i
            · subst hk; simp
            · simp [hk]
          rw [hsub]
          refine List.length_filter_lt_length_iff_exists.2 ⟨i, List.mem_filter.2 ⟨hi1, hl⟩, by simp⟩
        omega
      · have : (fun k => (listed.setIfInBounds i true).getD k false) = fun k => if k = i then true else listed.getD k false := by
          funext k
          exact getD_set (by rw [hsz]; exact hi') k false
        rw [this]
        exact hI'
    · rw [← Array.all_toList, List.all_eq_true] at hdeps
      have := hdeps e he
      rw [hbd] at this
      simpa using this
/-! ### The last of those that .. -/
open Classical in
noncomputable def lastK (p : Nat → Prop) : Nat → Option Nat
  | 0 => none
  | k + 1 => if p k then some k else lastK p k
theorem lastK_congr {p q : Nat → Prop} : ∀ (n : Nat), (∀ k, k < n → (p k ↔ q k)) → lastK p n = lastK q n
  | 0, _ => rfl
  | n + 1, h => by
    simp only [lastK]
    rw [lastK_congr n (fun k hk => h k (by omega))]
    by_cases hp : p n
    · rw [if_pos hp, if_pos ((h n (by omega)).1 hp)]
    · rw [if_neg hp, if_neg (fun hq => hp ((h n (by omega)).2 hq))]
theorem lastK_cut {p : Nat → Prop} (i : Nat) : ∀ (n : Nat), i ≤ n → (∀ k, i ≤ k → k < n → ¬ p k) → lastK p n = lastK p i
  | 0, hi, _ => by have : i = 0 := by omega
                   subst this; rfl
  | n + 1, hi, h => by
    by_cases he : i = n + 1
    · rw [he]
    · simp only [lastK]
      rw [if_neg (h n (by omega) (by omega)), lastK_cut i n (by omega) (fun k h1 h2 => h k h1 (by omega))]
theorem lastK_some {p : Nat → Prop} : ∀ (n k : Nat), lastK p n = some k → k < n ∧ p k
  | 0, k, h => by cases h
  | n + 1, k, h => by
    simp only [lastK] at h
    split at h
    · cases h; rename_i hp; exact ⟨by omega, hp⟩
    · have := lastK_some n k h; exact ⟨by omega, this.2⟩
theorem lastK_none {p : Nat → Prop} : ∀ (n : Nat), lastK p n = none → ∀ k, k < n → ¬ p k
  | 0, _, k, hk => by omega
  | n + 1, h, k, hk => by
    simp only [lastK] at h
    split at h
    · cases h
    · rename_i hp
      by_cases e : k = n
      · subst e; exact hp
      · exact lastK_none n h k (by omega)
theorem lastK_at {p : Nat → Prop} {n i : Nat} (hi : i < n) (hp : p i) (h : ∀ k, i < k → k < n → ¬ p k) : lastK p n = some i := by
  rw [lastK_cut (i + 1) n (by omega) (fun k h1 h2 => h k (by omega) h2)]
  simp only [lastK]
  rw [if_pos hp]
end
end Go.Proofs.YtjckgagkkknmnaaDoor.Rk
/-
  Reckoning a program in the kernel: what is reckoned of a region that draws its order holds in any order. Nothing of the program.
-/
namespace Go.Proofs.YtjckgagkkknmnaaDoor.Rk
set_option linter.unusedVariables false
set_option linter.unusedSimpArgs false
open Go
set_option maxHeartbeats 2000000
set_option linter.unusedSimpArgs false

/-- What an operation of such a region does, reckoned in its text's row. -/
structure OpF (w0 : World) (P : Program) (N : Nat) (ops : Array Oper) (ro : Option Nat) (k : Nat) (a a' : Tri AV) (s s' : St) (T Wr : List Nat) (v : AV) : Prop where
  sub : ∀ n ∈ Wr, n ∈ T ∧ n < s'.nx
  nx : s.nx ≤ s'.nx
  same : ∀ n, n ∉ Wr → n < s.nx → s'.H n = s.H n
  op : ∃ o, ops[k]? = some o ∧ (∀ d, o.dst = some d → d < N) ∧ (∀ t, a'.get (pt t) = if o.dst = some t then some v else a.get (pt t)) ∧
    ∀ (m : Tl) (H : Hp) (W : World) (act : Act) (K : Act → World → Prop) (Q : Exit → Act → World → Prop), Good w0 P P.globals.size m H W → Agree H s T → Fresh m s s' → RdAll m a act (opSlots o ++ gdSlots ops o) →
      (∀ m' v' W', Stp w0 P P.globals.size s s' Wr m m' H W W' → VR m' v v' → K (act.put o.dst v') W') → wpOpIn (wf ro) 0 P ops Q k K act W
section
variable {w0 : World} {P : Program} {N : Nat} {ops : Array Oper} {anc : Array Nat} {ro : Option Nat} {cl yl : Nat → List AV → St → Option (AV × St)}
theorem app_eq {α : Type} : ∀ (x y : List α), app x y = x ++ y
  | [], _ => rfl
  | a :: x, y => by show a :: app x y = _; rw [app_eq x y]; rfl
def ll (s : St) : St := ⟨s.h, s.nx, [], []⟩
theorem opsD_facts (hcl : ClOk w0 P cl) (hyl : YlOk w0 P yl) : ∀ (l : List Oper) (i : Nat) (es : List EOper) (rs rs' : List Rec) (a a' : Tri AV) (s s' : St), (∀ k, l[k]? = ops[i + k]?) → cOpers P N ops anc l i = some es → evOpsD cl yl es i rs a s = some (rs', a', s') →
    ∃ (A : Nat → Tri AV) (S : Nat → St) (T Wr : Nat → List Nat) (V : Nat → AV), A i = a ∧ S i = ll s ∧ A (i + l.length) = a' ∧ S (i + l.length) = ll s' ∧
      (∀ k, i ≤ k → k < i + l.length → OpF w0 P N ops ro k (A k) (A (k + 1)) (S k) (S (k + 1)) (T k) (Wr k) (V k)) ∧
      (∀ k, i ≤ k → k < i + l.length → (⟨k, anc.getD k 0, (S k).nx, (S (k + 1)).nx, T k, Wr k⟩ : Rec) ∈ rs') ∧ (∀ r ∈ rs, r ∈ rs') ∧
      (∃ TT, s'.lg = TT ++ s.lg ∧ ∀ x, x ∈ TT ↔ ∃ k, i ≤ k ∧ k < i + l.length ∧ x ∈ T k) ∧ (∃ WW, s'.wl = WW ++ s.wl ∧ ∀ x, x ∈ WW ↔ ∃ k, i ≤ k ∧ k < i + l.length ∧ x ∈ Wr k)
  | [], i, es, rs, rs', a, a', s, s', hl, hc, h => by
    cases hc
    cases h
    exact ⟨fun _ => a, fun _ => ll s, fun _ => [], fun _ => [], fun _ => .nilp, rfl, rfl, rfl, rfl, fun k h1 h2 => by simp at h2; omega, fun k h1 h2 => by simp at h2; omega, fun r hr => hr,
      ⟨[], rfl, fun x => ⟨(fun h => by cases h), fun ⟨k, h1, h2, _⟩ => by simp at h2; omega⟩⟩, ⟨[], rfl, fun x => ⟨(fun h => by cases h), fun ⟨k, h1, h2, _⟩ => by simp at h2; omega⟩⟩⟩
  | o :: l, i, es, rs, rs', a, a', s, s', hl, hc, h => by
    unfold cOpers at hc
    split at hc
    · rename_i e es' he hes
      cases hc
      obtain ⟨⟨a1, s1⟩, h1, h_⟩ := ob_some h; clear h; have h := h_; clear h_
      have hoi : ops[i]? = some o := by have := hl 0; simpa using this.symm
      obtain ⟨_, hanc, hdN, T1, W1, v, g1, hget, hop⟩ := oper_ok (ro := ro) hcl hyl he h1
      have hT1 : s1.lg = T1 := by have := g1.lg; simpa using this
      have hW1 : s1.wl = W1 := by have := g1.wl; simpa using this
      obtain ⟨A, S, T, Wr, V, e1, e2, e3, e4, e5, e6, e7, ⟨TT, e8, e8'⟩, ⟨WW, e9, e9'⟩⟩ := opsD_facts hcl hyl l (i + 1) es' _ rs' a1 a' _ s' (fun k => by have := hl (k + 1); simpa [Nat.add_assoc, Nat.add_comm 1] using this) hes h
      have hlen : i + 1 + l.length = i + (o :: l).length := by simp; omega
      rw [hlen] at e3 e4 e5 e6 e8' e9'
      have hS1 : S (i + 1) = ll s1 := e2
      refine ⟨fun k => if k = i then a else A k, fun k => if k = i then ll s else S k, fun k => if k = i then T1 else T k, fun k => if k = i then W1 else Wr k, fun k => if k = i then v else V k,
        if_pos rfl, if_pos rfl, ?_, ?_, fun k h2 h3 => ?_, fun k h2 h3 => ?_, fun r hr => e7 r (by simp [hr]), ⟨TT ++ T1, ?_, fun x => ?_⟩, ⟨WW ++ W1, ?_, fun x => ?_⟩⟩
      · show (if i + (o :: l).length = i then a else A (i + (o :: l).length)) = a'
        rw [if_neg (by simp)]; exact e3
      · show (if i + (o :: l).length = i then ll s else S (i + (o :: l).length)) = ll s'
        rw [if_neg (by simp)]; exact e4
      · by_cases hk : k = i
        · subst hk
          simp only [if_true]
          rw [if_neg (by omega), if_neg (by omega), e1, hS1]
          exact ⟨g1.sub, g1.nx, g1.same, o, hoi, hdN, hget, fun m H W act K Q hg ha hf hr hK => hop m H W act K Q k hoi hg ha hf hr (fun m' v' W' hst hv => hK m' v' W' ⟨hst.ext, hst.out, hst.new, hst.good, hst.frame, hst.rest⟩ hv)⟩
        · simp only [if_neg hk]
          rw [if_neg (by omega), if_neg (by omega)]
          exact e5 k (by omega) h3
      · by_cases hk : k = i
        · subst hk
          simp only [if_true]
          rw [if_neg (by omega), hS1]
          refine e7 _ ?_
          rw [← hT1, ← hW1, ← hanc]
          exact List.mem_cons_self ..
        · simp only [if_neg hk]
          rw [if_neg (by omega)]
          exact e6 k (by omega) h3
      · rw [e8]
        show TT ++ app s1.lg s.lg = _
        rw [app_eq, hT1, List.append_assoc]
      · rw [List.mem_append, e8']
        constructor
        · rintro (⟨k, h2, h3, h4⟩ | h4)
          · exact ⟨k, by omega, h3, by show x ∈ (if k = i then T1 else T k); rw [if_neg (by omega)]; exact h4⟩
          · exact ⟨i, Nat.le_refl _, by simp, by show x ∈ (if i = i then T1 else T i); rw [if_pos rfl]; exact h4⟩
        · rintro ⟨k, h2, h3, h4⟩
          by_cases hk : k = i
          · subst hk
            exact .inr (by simpa using h4)
          · exact .inl ⟨k, by omega, h3, by simpa [hk] using h4⟩
      · rw [e9]
        show WW ++ app s1.wl s.wl = _
        rw [app_eq, hW1, List.append_assoc]
      · rw [List.mem_append, e9']
        constructor
        · rintro (⟨k, h2, h3, h4⟩ | h4)
          · exact ⟨k, by omega, h3, by show x ∈ (if k = i then W1 else Wr k); rw [if_neg (by omega)]; exact h4⟩
          · exact ⟨i, Nat.le_refl _, by simp, by show x ∈ (if i = i then W1 else Wr i); rw [if_pos rfl]; exact h4⟩
        · rintro ⟨k, h2, h3, h4⟩
          by_cases hk : k = i
          · subst hk
            exact .inr (by simpa using h4)
          · exact .inl ⟨k, by omega, h3, by simpa [hk] using h4⟩
    · cases hc
theorem memN_iff {n : Nat} : ∀ {l : List Nat}, memN n l = true ↔ n ∈ l
  | [] => by simp [memN]
  | m :: l => by
    have : memN n (m :: l) = Bool.rec (memN n l) true (Nat.beq n m) := rfl
    rw [this]
    cases h : Nat.beq n m with
    | true => have := Nat.eq_of_beq_eq_true h; simp [this]
    | false => have := Nat.ne_of_beq_eq_false h; simp [memN_iff, this]
theorem clear1_spec {y : Rec} : ∀ {l : List Nat}, clear1 y l = true → ∀ n ∈ l, n ∉ y.W ∧ ¬ (y.from_ ≤ n ∧ n < y.to)
  | [], _, n, hn => by cases hn
  | k :: l, h, n, hn => by
    have h' : (Bool.rec (Bool.rec (clear1 y l) (Bool.rec (clear1 y l) false (Nat.ble (k + 1) y.to)) (Nat.ble y.from_ k)) false (memN k y.W) : Bool) = true := h
    cases hm : memN k y.W with
    | true => rw [hm] at h'; cases h'
    | false =>
      rw [hm] at h'
      have hnk : k ∉ y.W := fun e => by rw [memN_iff.2 e] at hm; cases hm
      have key : clear1 y l = true ∧ ¬ (y.from_ ≤ k ∧ k < y.to) := by
        cases h1 : Nat.ble y.from_ k with
        | false => rw [h1] at h'; exact ⟨h', fun e => by rw [Nat.ble_eq_true_of_le e.1] at h1; cases h1⟩
        | true =>
          rw [h1] at h'
          cases h2 : Nat.ble (k + 1) y.to with
          | false => rw [h2] at h'; exact ⟨h', fun e => by rw [Nat.ble_eq_true_of_le (show k + 1 ≤ y.to from e.2)] at h2; cases h2⟩
          | true => rw [h2] at h'; cases h'
      rcases List.mem_cons.1 hn with rfl | hn
      · exact ⟨hnk, key.2⟩
      · exact clear1_spec key.1 n hn
theorem isNil_spec {α : Type} {l : List α} (h : isNil l = true) : l = [] := by cases l with
  | nil => rfl
  | cons a l => cases h
theorem allR_spec {p : Rec → Bool} : ∀ {l : List Rec}, allR p l = true → ∀ r ∈ l, p r = true
  | [], _, r, hr => by cases hr
  | x :: l, h, r, hr => by
    have h' : (Bool.rec false (allR p l) (p x) : Bool) = true := h
    cases hp : p x with
    | false => rw [hp] at h'; cases h'
    | true =>
      rw [hp] at h'
      rcases List.mem_cons.1 hr with rfl | hr
      · exact hp
      · exact allR_spec h' r hr
theorem clear_spec {rs : List Rec} (h : clearAll rs = true) {x y : Rec} (hx : x ∈ rs) (hy : y ∈ rs) {n : Nat} (hn : n ∈ x.T) (ho : n ∈ y.W ∨ (y.from_ ≤ n ∧ n < y.to)) : x.i = y.i ∨ x.anc.testBit y.i = true ∨ y.anc.testBit x.i = true := by
  have h1 := allR_spec h x hx
  simp only [Bool.or_eq_true] at h1
  rcases h1 with h1 | h1
  · rw [isNil_spec h1] at hn; cases hn
  · have h2 := allR_spec h1 y hy
    unfold clearOf at h2
    simp only [Bool.or_eq_true, Bool.and_eq_true] at h2
    rcases h2 with (((h2 | h2) | h2) | h2) | h2
    · exact .inl (Nat.eq_of_beq_eq_true h2)
    · exact .inr (.inl h2)
    · exact .inr (.inr h2)
    · rw [isNil_spec h2.1] at ho
      have := Nat.eq_of_beq_eq_true h2.2
      rcases ho with ho | ho
      · cases ho
      · omega
    · have := clear1_spec h2 n hn
      rcases ho with ho | ho
      · exact absurd ho this.1
      · exact absurd ho this.2
theorem mem_trimL {f t n : Nat} : ∀ {l : List Nat}, n ∈ trimL f t l ↔ n ∈ l ∧ ¬ (f ≤ n ∧ n < t)
  | [] => by simp [trimL]
  | k :: l => by
    have h : trimL f t (k :: l) = Bool.rec (k :: trimL f t l) (Bool.rec (k :: trimL f t l) (trimL f t l) (Nat.ble (k + 1) t)) (Nat.ble f k) := rfl
    rw [h]
    cases h1 : Nat.ble f k with
    | false =>
      have h1' : ¬ f ≤ k := fun e => by rw [Nat.ble_eq_true_of_le e] at h1; cases h1
      show n ∈ k :: trimL f t l ↔ _
      rw [List.mem_cons, List.mem_cons, mem_trimL]
      constructor
      · rintro (rfl | ⟨h2, h3⟩)
        · exact ⟨.inl rfl, fun e => h1' e.1⟩
        · exact ⟨.inr h2, h3⟩
      · rintro ⟨rfl | h2, h3⟩
        · exact .inl rfl
        · exact .inr ⟨h2, h3⟩
    | true =>
      have h1' := Nat.le_of_ble_eq_true h1
      cases h2 : Nat.ble (k + 1) t with
      | false =>
        have h2' : ¬ k + 1 ≤ t := fun e => by rw [Nat.ble_eq_true_of_le e] at h2; cases h2
        show n ∈ k :: trimL f t l ↔ _
        rw [List.mem_cons, List.mem_cons, mem_trimL]
        constructor
        · rintro (rfl | ⟨h3, h4⟩)
          · exact ⟨.inl rfl, fun e => h2' e.2⟩
          · exact ⟨.inr h3, h4⟩
        · rintro ⟨rfl | h3, h4⟩
          · exact .inl rfl
          · exact .inr ⟨h3, h4⟩
      | true =>
        have h2' := Nat.le_of_ble_eq_true h2
        show n ∈ trimL f t l ↔ _
        rw [List.mem_cons, mem_trimL]
        constructor
        · rintro ⟨h3, h4⟩
          exact ⟨.inr h3, h4⟩
        · rintro ⟨rfl | h3, h4⟩
          · exact absurd ⟨h1', h2'⟩ h4
          · exact ⟨h3, h4⟩
theorem mem_trims {x : Rec} : ∀ {rs : List Rec}, x ∈ rs → trim x ∈ trims rs
  | y :: rs, h => by
    show trim x ∈ trim y :: trims rs
    rcases List.mem_cons.1 h with rfl | h
    · exact List.mem_cons_self ..
    · exact List.mem_cons_of_mem _ (mem_trims h)
/-- An operation's own laying need not be looked at, where the layings lie apart and what is written is touched. -/
theorem clearT_spec {rs : List Rec} (h : clearAll (trims rs) = true) {x y : Rec} (hx : x ∈ rs) (hy : y ∈ rs) (hsub : ∀ n ∈ y.W, n ∈ y.T) (hdis : x.i ≠ y.i → x.to ≤ y.from_ ∨ y.to ≤ x.from_) {n : Nat} (hn : n ∈ x.T) (ho : n ∈ y.W ∨ (y.from_ ≤ n ∧ n < y.to)) :
    x.i = y.i ∨ x.anc.testBit y.i = true ∨ y.anc.testBit x.i = true := by
  rcases Decidable.em (x.i = y.i) with hi | hi
  · exact .inl hi
  by_cases hnx : x.from_ ≤ n ∧ n < x.to
  · rcases ho with ho | ho
    · have hny : ¬ (y.from_ ≤ n ∧ n < y.to) := fun e => by rcases hdis hi with h1 | h1 <;> omega
      have := clear_spec (x := trim y) (y := trim x) h (mem_trims hy) (mem_trims hx) (n := n) (mem_trimL.2 ⟨hsub n ho, hny⟩) (.inr hnx)
      rcases this with h1 | h1 | h1
      · exact absurd h1.symm hi
      · exact .inr (.inr h1)
      · exact .inr (.inl h1)
    · rcases hdis hi with h1 | h1 <;> omega
  · refine clear_spec (x := trim x) (y := trim y) h (mem_trims hx) (mem_trims hy) (n := n) (mem_trimL.2 ⟨hn, hnx⟩) ?_
    by_cases hny : y.from_ ≤ n ∧ n < y.to
    · exact .inr hny
    · rcases ho with ho | ho
      · exact .inl (mem_trimL.2 ⟨ho, hny⟩)
      · exact .inr ho
theorem anc_lt (h : ancOk ops anc = true) {i j : Nat} (hi : i < ops.size) (hb : (anc.getD i 0).testBit j = true) : j < i := by
  have h1 := List.all_eq_true.1 h i (List.mem_range.2 hi)
  rw [Array.getElem?_eq_getElem hi] at h1
  simp only [Bool.and_eq_true, decide_eq_true_eq] at h1
  rcases Nat.lt_or_ge j i with h2 | h2
  · exact h2
  · exfalso
    have : anc.getD i 0 < 2 ^ j := Nat.lt_of_lt_of_le h1.1 (Nat.pow_le_pow_right (by omega) h2)
    rw [Nat.testBit_lt_two_pow this] at hb
    cases hb
theorem anc_dep (h : ancOk ops anc = true) {i j : Nat} {o : Oper} (ho : ops[i]? = some o) (hb : (anc.getD i 0).testBit j = true) : ∃ e ∈ o.after.toList, Region.binds .any e = true ∧ (e.on = j ∨ (anc.getD e.on 0).testBit j = true) := by
  obtain ⟨hi, _⟩ := Array.getElem?_eq_some_iff.1 ho
  have hlt := anc_lt h hi hb
  have h1 := List.all_eq_true.1 h i (List.mem_range.2 hi)
  rw [ho] at h1
  simp only [Bool.and_eq_true, decide_eq_true_eq] at h1
  have h2 := List.all_eq_true.1 h1.2 j (List.mem_range.2 hlt)
  rw [hb] at h2
  simp only [Bool.not_true, Bool.false_or] at h2
  obtain ⟨e, he, h3⟩ := List.any_eq_true.1 h2
  simp only [Bool.and_eq_true, Bool.or_eq_true] at h3
  exact ⟨e, he, h3.1, h3.2.imp (fun h => by simpa using h) id⟩
theorem apart_spec (h : apartOk ops anc = true) {i j : Nat} {o q : Oper} {d : Nat} (ho : ops[i]? = some o) (hd : o.dst = some d) (hq : ops[j]? = some q) (hm : d ∈ slots ops q) : i = j ∨ (anc.getD i 0).testBit j = true ∨ (anc.getD j 0).testBit i = true := by
  obtain ⟨hi, _⟩ := Array.getElem?_eq_some_iff.1 ho
  obtain ⟨hj, _⟩ := Array.getElem?_eq_some_iff.1 hq
  have h1 := List.all_eq_true.1 h i (List.mem_range.2 hi)
  rw [ho] at h1
  simp only [hd] at h1
  have h2 := List.all_eq_true.1 h1 j (List.mem_range.2 hj)
  rw [hq] at h2
  simp only [Bool.or_eq_true] at h2
  rcases h2 with ((h2 | h2) | h2) | h2
  · exact .inl (by simpa using h2)
  · exact .inr (.inl h2)
  · exact .inr (.inr h2)
  · have : (slots ops q).contains d = true := List.contains_iff_mem.2 hm
    rw [this] at h2; cases h2
end
end Go.Proofs.YtjckgagkkknmnaaDoor.Rk
