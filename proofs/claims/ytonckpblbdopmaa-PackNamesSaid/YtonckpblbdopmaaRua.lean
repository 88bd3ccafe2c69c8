/-
  Reckoning a program in the kernel: slices, append, copy, make. Nothing of the program.
-/
import Derived.Test.YtonckpblbdopmaaRu9
import Derived.Laws.BytesArg
import Derived.Laws.Append
import Derived.Deep.DeepAppendWide
namespace Go.Proofs.Ytonckpblbdopmaa.Rk
set_option linter.unusedVariables false
open Go
set_option maxHeartbeats 1000000

section
variable {w0 : World} {P : Program} {a : Tri AV} {s s' : St} {o : Oper} {v : AV} {m : Tl} {H : Hp} {W : World}
theorem OpG.slcS {t : TypeId} {x : Operand} {lo hi : Option Operand} {x' : Opd} {lo' hi' : Option Opd} (ho : o.op = .slice t x lo hi none) (ht : P.underlying t = some .string) (hx : cO P x = some x') (hl : cOpt P lo = some lo') (hh : cOpt P hi = some hi')
    {cl yl : Nat → List AV → St → Option (AV × St)} (h : evOp cl yl a s (.slcS x' lo' hi') = some (v, s')) : OpG w0 P a s s' o v := by
  obtain ⟨p, hp, h_⟩ := ob_some h; clear h; have h := h_; clear h_
  split at h
  · rename_i l
    obtain ⟨hb, h1, h_⟩ := ob_some h; clear h; have h := h_; clear h_
    obtain ⟨lb, h2, h_⟩ := ob_some h; clear h; have h := h_; clear h_
    cases h
    refine .pure fun m W act hg hr => ?_
    have hv := rdo_spec hx hp hr (by simp [ho, Op.operands]) hg
    generalize hz : act.eval x = z at hv
    cases hv
    obtain ⟨e1, e2, e3, e4⟩ := run_bounds false hh hl (Nat.le_refl _) h1 h2 hr (by rintro y rfl; simp [ho, Op.operands]) (by rintro y rfl; simp [ho, Op.operands]) hg W
    refine ⟨.string ⟨⟨(l.drop lb).take (hb - lb)⟩⟩, ?_, .str _⟩
    have hs : (ByteArray.mk ⟨l⟩).size = l.length := rfl
    simp only [execOp, ho, hz, Instr.sliceAt, Instr.slice, Sem.run_bind, run_und ht, Result.andThen_ok, Option.map_none, Option.isSome_none, Bool.false_eq_true, if_false, Sem.run_pure, hs, e1]
    congr 3
    have : (ByteArray.mk ⟨l⟩).extract lb hb = ⟨(Array.mk l).extract lb hb⟩ := by
      apply ByteArray.ext
      simp [ByteArray.data_extract]
    rw [this]
    congr 1
    apply Array.ext'
    simp
  · cases h
theorem OpG.slc {t e : TypeId} {n : Nat} {x : Operand} {lo hi : Option Operand} {x' : Opd} {lo' hi' : Option Opd} (ho : o.op = .slice t x lo hi none) (ht : P.underlying t = some (.slice e)) (hn : szT P e = some n) (hx : cO P x = some x') (hl : cOpt P lo = some lo') (hh : cOpt P hi = some hi')
    {cl yl : Nat → List AV → St → Option (AV × St)} (h : evOp cl yl a s (.slc n x' lo' hi') = some (v, s')) : OpG w0 P a s s' o v := by
  obtain ⟨p, hp, h_⟩ := ob_some h; clear h; have h := h_; clear h_
  have ml : ∀ y, lo = some y → y ∈ o.op.operands.toList := by rintro y rfl; simp [ho, Op.operands]
  have mh : ∀ y, hi = some y → y ∈ o.op.operands.toList := by rintro y rfl; simp [ho, Op.operands]
  split at h
  · obtain ⟨hb, h1, h_⟩ := ob_some h; clear h; have h := h_; clear h_
    obtain ⟨lb, h2, h_⟩ := ob_some h; clear h; have h := h_; clear h_
    cases h
    refine .pure fun m W act hg hr => ?_
    have hv := rdo_spec hx hp hr (by simp [ho, Op.operands]) hg
    generalize hz : act.eval x = z at hv
    cases hv
    obtain ⟨e1, e2, e3, e4⟩ := run_bounds (cap := 0) true hh hl (Nat.le_refl _) h1 h2 hr mh ml hg W
    have hb0 : hb = 0 := by
      cases hi with
      | none => exact e2 rfl
      | some y => have := e4 rfl; omega
    have lb0 : lb = 0 := by omega
    subst hb0; subst lb0
    refine ⟨.slice none 0 0, ?_, .nils⟩
    simp only [execOp, ho, hz, Instr.sliceAt, Instr.slice, Sem.run_bind, run_und ht, Result.andThen_ok, Option.map_none, e1, run_sz hn, Sem.run_pure, if_true, Nat.sub_self]
  · rename_i b off len cap
    obtain ⟨hb, h1, h_⟩ := ob_some h; clear h; have h := h_; clear h_
    obtain ⟨lb, h2, h_⟩ := ob_some h; clear h; have h := h_; clear h_
    simp only [fN_eq] at h
    cases h
    refine .pure fun m W act hg hr => ?_
    have hv := rdo_spec hx hp hr (by simp [ho, Op.operands]) hg
    generalize hz : act.eval x = z at hv
    cases hv
    rename_i b' hm hle
    obtain ⟨e1, e2, e3, e4⟩ := run_bounds (cap := cap) true hh hl (Nat.le_refl _) h1 h2 hr mh ml hg W
    have hbc : hb ≤ cap := by
      cases hi with
      | none => rw [e2 rfl]; exact hle
      | some y => exact e4 rfl
    have hrun : (execOp act.eval o).run P W = .ok (.value (.slice (if cap = lb then some ⟨b', off, none⟩ else some ⟨b', off + lb * n, none⟩) (hb - lb) (cap - lb))) W := by
      simp only [execOp, ho, hz, Instr.sliceAt, Instr.slice, Sem.run_bind, run_und ht, Result.andThen_ok, Option.map_none, e1, run_sz hn, Sem.run_pure]
      by_cases hcl : cap = lb
      · rw [if_pos hcl, if_pos hcl]
      · rw [if_neg hcl, if_neg hcl]
        simp [addr_add]
    refine ⟨_, hrun, ?_⟩
    by_cases hcl : cap = lb
    · rw [if_pos hcl]
      have : Nat.beq cap lb = true := by rw [hcl]; exact Nat.beq_refl lb
      rw [this]
      exact .sl off (hb - lb) (cap - lb) hm (by omega)
    · rw [if_neg hcl]
      have : Nat.beq cap lb = false := by
        cases hq : Nat.beq cap lb with
        | false => rfl
        | true => exact absurd (Nat.eq_of_beq_eq_true hq) hcl
      rw [this]
      exact .sl _ _ _ hm (by omega)
  · rename_i b off len z0
    obtain ⟨hb, h1, h_⟩ := ob_some h; clear h; have h := h_; clear h_
    obtain ⟨lb, h2, h_⟩ := ob_some h; clear h; have h := h_; clear h_
    simp only [fN_eq] at h
    obtain ⟨hz0, h_⟩ := rec_some h; clear h; have h := h_; clear h_
    have hz0 := Nat.eq_of_beq_eq_true hz0
    have key : s' = s ∧ v = .slu b (off + lb * n) (hb - lb) z0 ∧ (lb < hb ∨ lb = 0) := by
      rcases rec_two h with ⟨_, h⟩ | ⟨q, h⟩
      · rcases rec_two h with ⟨_, h⟩ | ⟨q2, h⟩
        · cases h
        · cases h; exact ⟨rfl, rfl, .inr (Nat.eq_of_beq_eq_true q2)⟩
      · cases h; exact ⟨rfl, rfl, .inl (Nat.le_of_ble_eq_true q)⟩
    obtain ⟨rfl, rfl, hor⟩ := key
    clear h
    refine .pure fun m W act hg hr => ?_
    have hv := rdo_spec hx hp hr (by simp [ho, Op.operands]) hg
    generalize hz : act.eval x = z at hv
    cases hv
    rename_i b' cap hB hm hle hC
    obtain ⟨e1, e2, e3, e4⟩ := run_bounds (cap := cap) true hh hl hle h1 h2 hr mh ml hg W
    have hbc : hb ≤ len := by
      cases hi with
      | none => rw [e2 rfl]; exact Nat.le_refl _
      | some y => exact e4 rfl
    have hrun : (execOp act.eval o).run P W = .ok (.value (.slice (some ⟨b', off + lb * n, none⟩) (hb - lb) (cap - lb))) W := by
      simp only [execOp, ho, hz, Instr.sliceAt, Instr.slice, Sem.run_bind, run_und ht, Result.andThen_ok, Option.map_none, e1, run_sz hn, Sem.run_pure]
      by_cases hcl : cap = lb
      · have : lb = 0 := by omega
        subst this
        rw [if_pos hcl]
        simp
      · rw [if_neg hcl]
        simp [addr_add]
    refine ⟨_, hrun, .slu _ _ _ _ hm (by omega) ?_ (by omega)⟩
    rw [hz0] at hC ⊢
    have hmul : lb * n + (cap - lb) * n ≤ cap * n := by
      rw [← Nat.add_mul]
      exact Nat.mul_le_mul_right _ (by omega)
    omega
  · cases h
theorem OpG.slcA {t e : TypeId} {n k : Nat} {x : Operand} {lo hi : Option Operand} {x' : Opd} {lo' hi' : Option Opd} (ho : o.op = .slice t x lo hi none) (ht : P.underlying t = some (.array n e)) (hn : szT P e = some k) (hx : cO P x = some x') (hl : cOpt P lo = some lo') (hh : cOpt P hi = some hi')
    {cl yl : Nat → List AV → St → Option (AV × St)} (h : evOp cl yl a s (.slcA n k x' lo' hi') = some (v, s')) : OpG w0 P a s s' o v := by
  obtain ⟨p, hp, h_⟩ := ob_some h; clear h; have h := h_; clear h_
  have ml : ∀ y, lo = some y → y ∈ o.op.operands.toList := by rintro y rfl; simp [ho, Op.operands]
  have mh : ∀ y, hi = some y → y ∈ o.op.operands.toList := by rintro y rfl; simp [ho, Op.operands]
  split at h
  · rename_i b off
    obtain ⟨hb, h1, h_⟩ := ob_some h; clear h; have h := h_; clear h_
    obtain ⟨lb, h2, h_⟩ := ob_some h; clear h; have h := h_; clear h_
    simp only [fN_eq] at h
    cases h
    refine .pure fun m W act hg hr => ?_
    have hv := rdo_spec hx hp hr (by simp [ho, Op.operands]) hg
    generalize hz : act.eval x = z at hv
    cases hv
    rename_i b' hm
    obtain ⟨e1, e2, e3, e4⟩ := run_bounds (cap := n) false hh hl (Nat.le_refl _) h1 h2 hr mh ml hg W
    have hbc : hb ≤ n := by
      cases hi with
      | none => rw [e2 rfl]; exact Nat.le_refl _
      | some y => exact e4 rfl
    have hrun : (execOp act.eval o).run P W = .ok (.value (.slice (if n = lb then some ⟨b', off, none⟩ else some ⟨b', off + lb * k, none⟩) (hb - lb) (n - lb))) W := by
      simp only [execOp, ho, hz, Instr.sliceAt, Instr.sureAddr, Sem.run_bind, run_und ht, Result.andThen_ok, Option.map_none, e1, run_sz hn, Sem.run_pure]
      by_cases hcl : n = lb
      · rw [if_pos hcl, if_pos hcl]
      · rw [if_neg hcl, if_neg hcl]
        simp [addr_add]
    refine ⟨_, hrun, ?_⟩
    by_cases hcl : n = lb
    · rw [if_pos hcl]
      have : Nat.beq n lb = true := by rw [hcl]; exact Nat.beq_refl lb
      rw [this]
      exact .sl off (hb - lb) (n - lb) hm (by omega)
    · rw [if_neg hcl]
      have : Nat.beq n lb = false := by
        cases hq : Nat.beq n lb with
        | false => rfl
        | true => exact absurd (Nat.eq_of_beq_eq_true hq) hcl
      rw [this]
      exact .sl _ _ _ hm (by omega)
  · cases h
theorem OpG.slc3 {t e : TypeId} {n : Nat} {x hi mx : Operand} {lo : Option Operand} {x' hi' mx' : Opd} {lo' : Option Opd} (ho : o.op = .slice t x lo (some hi) (some mx)) (ht : P.underlying t = some (.slice e)) (hn : szT P e = some n) (hx : cO P x = some x') (hl : cOpt P lo = some lo') (hh : cO P hi = some hi') (hm' : cO P mx = some mx')
    {cl yl : Nat → List AV → St → Option (AV × St)} (h : evOp cl yl a s (.slc3 n x' lo' (some hi') (some mx')) = some (v, s')) : OpG w0 P a s s' o v := by
  obtain ⟨p, hp, h_⟩ := ob_some h; clear h; have h := h_; clear h_
  have ml : ∀ y, lo = some y → y ∈ o.op.operands.toList := by rintro y rfl; simp [ho, Op.operands]
  have mh : ∀ y, some hi = some y → y ∈ o.op.operands.toList := by rintro y hy; cases hy; simp [ho, Op.operands]
  have mm : ∀ y, some mx = some y → y ∈ o.op.operands.toList := by rintro y hy; cases hy; simp [ho, Op.operands]
  have ch : cOpt P (some hi) = some (some hi') := by simp [cOpt, hh]
  have cm : cOpt P (some mx) = some (some mx') := by simp [cOpt, hm']
  have key : ∀ (m : Tl) {cap d y : Nat} {act : Act} {mb hb lb : Nat}, RdOk m a act o.op.operands.toList → (∀ g, g < P.globals.size → m g = some g) → bnd a d y (some mx') = some mb → bnd a 0 mb (some hi') = some hb → bnd a 0 hb lo' = some lb → y ≤ cap → ∀ len w,
      (Instr.sliceBounds true len cap (lo.map act.eval) (some (act.eval hi)) (some (act.eval mx))).run P w = .ok (lb, hb, mb) w ∧ lb ≤ hb ∧ hb ≤ mb ∧ mb ≤ y := by
    intro m cap d y act mb hb lb hr hg q1 q2 q3 hyc len w
    rcases run_bnd cm q1 hr mm hg with ⟨hno, _⟩ | ⟨xm, km, hxm, hem, hlem, _⟩
    · cases hno
    · cases hxm
      rcases run_bnd ch q2 hr mh hg with ⟨hno, _⟩ | ⟨xh, kh, hxh, heh, hleh, hrunh⟩
      · cases hno
      · cases hxh
        have hmr : ∀ code, (Instr.sliceBound (.int km (mb : Int)) cap code).run P w = .ok mb w := fun code => by
          have : (0 : Int) ≤ (mb : Int) ∧ (mb : Int) ≤ (cap : Int) := by omega
          simp only [Instr.sliceBound, asIntOf, Sem.run_bind, Sem.run_pure, Result.andThen_ok]
          rw [if_pos this]
          simp
        rcases run_bnd hl q3 hr ml hg with ⟨rfl, rfl⟩ | ⟨xl, kl, rfl, hel, hlel, hrunl⟩
        · exact ⟨by simp [Instr.sliceBounds, hem, heh, hmr, hrunh], by omega, hleh, hlem⟩
        · exact ⟨by simp [Instr.sliceBounds, hem, heh, hel, hmr, hrunh, hrunl], hlel, hleh, hlem⟩
  split at h
  · obtain ⟨mb, h0, h_⟩ := ob_some h; clear h; have h := h_; clear h_
    obtain ⟨hb, h1, h_⟩ := ob_some h; clear h; have h := h_; clear h_
    obtain ⟨lb, h2, h_⟩ := ob_some h; clear h; have h := h_; clear h_
    cases h
    refine .pure fun m W act hg hr => ?_
    have hv := rdo_spec hx hp hr (by simp [ho, Op.operands]) hg
    generalize hz : act.eval x = z at hv
    cases hv
    obtain ⟨e1, e2, e3, e4⟩ := key m hr hg h0 h1 h2 (Nat.le_refl 0) 0 W
    have : mb = 0 := by omega
    have : hb = 0 := by omega
    have : lb = 0 := by omega
    subst mb; subst hb; subst lb
    refine ⟨.slice none 0 0, ?_, .nils⟩
    simp only [execOp, ho, hz, Instr.sliceAt, Instr.slice, Sem.run_bind, run_und ht, Result.andThen_ok, Option.map_some, e1, run_sz hn, Sem.run_pure, if_true, Nat.sub_self]
  all_goals first
    | (cases h; done)
    | (rename_i b off len cap
       obtain ⟨mb, h0, h_⟩ := ob_some h; clear h; have h := h_; clear h_
       obtain ⟨hb, h1, h_⟩ := ob_some h; clear h; have h := h_; clear h_
       obtain ⟨lb, h2, h_⟩ := ob_some h; clear h; have h := h_; clear h_
       simp only [fN_eq] at h
       cases h
       refine .pure fun m W act hg hr => ?_
       have hv := rdo_spec hx hp hr (by simp [ho, Op.operands]) hg
       generalize hz : act.eval x = z at hv
       obtain ⟨b', c, hm, rfl, hle⟩ := hv.slice (by first | exact .inl ⟨_, rfl⟩ | exact .inr ⟨_, rfl⟩)
       have hkey : (Instr.sliceBounds true len c (lo.map act.eval) (some (act.eval hi)) (some (act.eval mx))).run P W = .ok (lb, hb, mb) W ∧ lb ≤ hb ∧ hb ≤ mb := by
         first
           | (cases hv; obtain ⟨e1, e2, e3, e4⟩ := key m hr hg h0 h1 h2 (Nat.le_refl _) len W; exact ⟨e1, e2, e3⟩)
           | (obtain ⟨e1, e2, e3, e4⟩ := key m hr hg h0 h1 h2 hle len W; exact ⟨e1, e2, e3⟩)
       obtain ⟨e1, e2, e3⟩ := hkey
       have hrun : (execOp act.eval o).run P W = .ok (.value (.slice (if mb = lb then some ⟨b', off, none⟩ else some ⟨b', off + lb * n, none⟩) (hb - lb) (mb - lb))) W := by
         simp only [execOp, ho, hz, Instr.sliceAt, Instr.slice, Sem.run_bind, run_und ht, Result.andThen_ok, Option.map_some, e1, run_sz hn, Sem.run_pure]
         by_cases hcl : mb = lb
         · rw [if_pos hcl, if_pos hcl]
         · rw [if_neg hcl, if_neg hcl]
           simp [addr_add]
       refine ⟨_, hrun, ?_⟩
       by_cases hcl : mb = lb
       · rw [if_pos hcl]
         have : Nat.beq mb lb = true := by rw [hcl]; exact Nat.beq_refl lb
         rw [this]
         exact .sl off (hb - lb) (mb - lb) hm (by omega)
       · rw [if_neg hcl]
         have : Nat.beq mb lb = false := by
           cases hq : Nat.beq mb lb with
           | false => rfl
           | true => exact absurd (Nat.eq_of_beq_eq_true hq) hcl
         rw [this]
         exact .sl _ _ _ hm (by omega))
theorem OpG.len {b : Bool} {t : TypeId} {x : Operand} {x' : Opd} (ho : o.op = .call { callee := .builtin .len, args := #[x], argTypes := #[t] }) (ht : (b = true ∧ P.underlying t = some .string) ∨ (b = false ∧ ∃ e, P.underlying t = some (.slice e))) (hx : cO P x = some x')
    {cl yl : Nat → List AV → St → Option (AV × St)} (h : evOp cl yl a s (.len b x') = some (v, s')) : OpG w0 P a s s' o v := by
  obtain ⟨p, hp, h_⟩ := ob_some h; clear h; have h := h_; clear h_
  obtain ⟨n, hn, h_⟩ := ob_some h; clear h; have h := h_; clear h_
  rw [fN_eq] at h
  cases h
  have hk : (b = true ∧ ∃ l, p = .str l) ∨ (b = false ∧ ¬ ∃ l, p = .str l) ∧ lenA p = some n := by
    cases b
    · refine .inr ⟨⟨rfl, ?_⟩, ?_⟩ <;> cases p <;> simp_all [lenB, lenA]
    · refine .inl ⟨rfl, ?_⟩
      cases p <;> simp_all [lenB]
  have hl : lenA p = some n := by
    rcases hk with ⟨rfl, l, rfl⟩ | ⟨_, hl⟩
    · simpa [lenB, lenA] using hn
    · exact hl
  refine .pure fun m W act hg hr => ?_
  have hv := rdo_spec hx hp hr (by simp [ho, Op.operands, Call.operands]) hg
  have hrun := lenA_run (P := P) (t := t) (ty := o.type) hl hv (by
    rcases ht with ⟨rfl, ht⟩ | ⟨rfl, ht⟩
    · rcases hk with ⟨_, hk⟩ | ⟨⟨hk, _⟩, _⟩
      · exact .inl ⟨ht, hk⟩
      · cases hk
    · rcases hk with ⟨hk, _⟩ | ⟨⟨_, hk⟩, _⟩
      · cases hk
      · exact .inr ⟨ht, hk⟩) W
  exact ⟨.int .i64 n, by simp [execOp, ho, resolve, invoke, builtin, hrun], .int _ _⟩
end
end Go.Proofs.Ytonckpblbdopmaa.Rk
