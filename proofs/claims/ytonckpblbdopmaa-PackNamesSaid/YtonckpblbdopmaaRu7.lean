/-
  Reckoning a program in the kernel: numbers, strings, comparisons, parts of values. Nothing of the program.
-/
import Derived.Test.YtonckpblbdopmaaRu6
import Derived.Laws.Strings
import Derived.Laws.Concat
namespace Go.Proofs.Ytonckpblbdopmaa.Rk
set_option linter.unusedVariables false
open Go

section
variable {w0 : World} {P : Program} {a : Tri AV} {s s' : St} {o : Oper} {v : AV}
theorem run_guard_int (op : BinOp) (t : TypeId) (X Y : Operand) (k j : IntKind) (x y : Int) (w : World) : (eqGuard op t X Y (.int k x) (.int j y)).run P w = .ok () w := by
  unfold eqGuard
  cases op <;> simp
theorem run_guard_str (op : BinOp) (t : TypeId) (X Y : Operand) (x y : ByteArray) (w : World) : (eqGuard op t X Y (.string x) (.string y)).run P w = .ok () w := by
  unfold eqGuard
  cases op <;> simp
theorem run_binI {op : BinOp} {k j : IntKind} {x y : Int} (t : TypeId) (h : binI op k x j y = some v) (w : World) (m : Tl) : ∃ u, (binOp op t (.int k x) (.int j y)).run P w = .ok u w ∧ VR m v u := by
  cases op with
  | shl => obtain ⟨u, h1, h2⟩ := run_shift (P := P) (.inl rfl) h w m; exact ⟨u, by simpa [binOp] using h1, h2⟩
  | shr => obtain ⟨u, h1, h2⟩ := run_shift (P := P) (.inr rfl) h w m; exact ⟨u, by simpa [binOp] using h1, h2⟩
  | add => obtain ⟨h1, hb⟩ := rec_some h; have := kEq_eq h1; subst this; clear h; simp only [mkI_eq] at hb; cases hb; exact ⟨_, by simp [binOp, Op.intArith], .int _ _⟩
  | sub => obtain ⟨h1, hb⟩ := rec_some h; have := kEq_eq h1; subst this; clear h; simp only [mkI_eq] at hb; cases hb; exact ⟨_, by simp [binOp, Op.intArith], .int _ _⟩
  | mul => obtain ⟨h1, hb⟩ := rec_some h; have := kEq_eq h1; subst this; clear h; simp only [mkI_eq] at hb; cases hb; exact ⟨_, by simp [binOp, Op.intArith], .int _ _⟩
  | quo =>
    obtain ⟨h1, hb⟩ := rec_some h; have := kEq_eq h1; subst this; clear h
    rcases rec_two hb with ⟨h2, h⟩ | ⟨_, h⟩
    · rw [beqI_eq, decide_eq_false_iff_not] at h2
      rw [mkI_eq] at h; cases h; exact ⟨_, by simp [binOp, Op.intDiv, h2], .int _ _⟩
    · cases h
  | rem =>
    obtain ⟨h1, hb⟩ := rec_some h; have := kEq_eq h1; subst this; clear h
    rcases rec_two hb with ⟨h2, h⟩ | ⟨_, h⟩
    · rw [beqI_eq, decide_eq_false_iff_not] at h2
      rw [fI_eq] at h; cases h; exact ⟨_, by simp [binOp, Op.intDiv, h2], .int _ _⟩
    · cases h
  | and => obtain ⟨h1, hb⟩ := rec_some h; have := kEq_eq h1; subst this; clear h; simp only [mkI_eq] at hb; cases hb; exact ⟨_, by simp [binOp, Op.intBits], .int _ _⟩
  | or => obtain ⟨h1, hb⟩ := rec_some h; have := kEq_eq h1; subst this; clear h; simp only [mkI_eq] at hb; cases hb; exact ⟨_, by simp [binOp, Op.intBits], .int _ _⟩
  | xor => obtain ⟨h1, hb⟩ := rec_some h; have := kEq_eq h1; subst this; clear h; simp only [mkI_eq] at hb; cases hb; exact ⟨_, by simp [binOp, Op.intBits], .int _ _⟩
  | andNot => obtain ⟨h1, hb⟩ := rec_some h; have := kEq_eq h1; subst this; clear h; simp only [mkI_eq] at hb; cases hb; exact ⟨_, by simp [binOp, Op.intBits], .int _ _⟩
  | eql => obtain ⟨h1, hb⟩ := rec_some h; have := kEq_eq h1; subst this; clear h; simp only [mkB_eq] at hb; cases hb; exact ⟨.bool (decide (x = y)), by simp only [binOp, Op.intCmp, ne_eq, not_true_eq_false, if_false]; rfl, by rw [beqI_eq]; exact .bool _⟩
  | neq => obtain ⟨h1, hb⟩ := rec_some h; have := kEq_eq h1; subst this; clear h; simp only [mkB_eq] at hb; cases hb; exact ⟨.bool (!decide (x = y)), by simp only [binOp, Op.intCmp, ne_eq, not_true_eq_false, if_false]; rfl, by rw [beqI_eq]; exact .bool _⟩
  | lss => obtain ⟨h1, hb⟩ := rec_some h; have := kEq_eq h1; subst this; clear h; simp only [mkB_eq] at hb; cases hb; exact ⟨.bool (decide (x < y)), by simp only [binOp, Op.intCmp, ne_eq, not_true_eq_false, if_false]; rfl, by rw [ble_eq, ← decide_not]; simp only [Int.not_le]; exact .bool _⟩
  | leq => obtain ⟨h1, hb⟩ := rec_some h; have := kEq_eq h1; subst this; clear h; simp only [mkB_eq] at hb; cases hb; exact ⟨.bool (decide (x ≤ y)), by simp only [binOp, Op.intCmp, ne_eq, not_true_eq_false, if_false]; rfl, by rw [ble_eq]; exact .bool _⟩
  | gtr => obtain ⟨h1, hb⟩ := rec_some h; have := kEq_eq h1; subst this; clear h; simp only [mkB_eq] at hb; cases hb; exact ⟨.bool (decide (x > y)), by simp only [binOp, Op.intCmp, ne_eq, not_true_eq_false, if_false]; rfl, by rw [ble_eq, ← decide_not]; simp only [Int.not_le]; exact .bool _⟩
  | geq => obtain ⟨h1, hb⟩ := rec_some h; have := kEq_eq h1; subst this; clear h; simp only [mkB_eq] at hb; cases hb; exact ⟨.bool (decide (x ≥ y)), by simp only [binOp, Op.intCmp, ne_eq, not_true_eq_false, if_false]; rfl, by rw [ble_eq]; exact .bool _⟩
theorem run_binS {op : BinOp} {x y : List UInt8} (t : TypeId) (h : binS op x y = some v) (w : World) (m : Tl) : ∃ u, (binOp op t (.string ⟨⟨x⟩⟩) (.string ⟨⟨y⟩⟩)).run P w = .ok u w ∧ VR m v u := by
  cases op <;> first | (cases h; done) | skip
  · obtain ⟨h1, h_⟩ := rec_some h; clear h; have h := h_; clear h_
    have := Nat.le_of_ble_eq_true h1
    cases h
    refine ⟨.string ⟨⟨x ++ y⟩⟩, ?_, .str _⟩
    rw [binOp_string_add, run_string_add_sum]
    rotate_left
    · exact this
    have := ByteArray.mk_append_mk x y
    rw [show (ByteArray.mk ⟨x⟩ ++ ByteArray.mk ⟨y⟩) = ByteArray.mk ⟨x ++ y⟩ from this]
  · simp only [binS, mkB_eq, strEq_eq] at h
    cases h
    exact ⟨_, by rw [binOp_string_eql, show (ByteArray.mk ⟨x⟩).toList = x from ByteArray.toList_mk x, show (ByteArray.mk ⟨y⟩).toList = y from ByteArray.toList_mk y]; rfl, .bool _⟩
  · simp only [binS, mkB_eq, strEq_eq] at h
    cases h
    exact ⟨_, by rw [binOp_string_neq, show (ByteArray.mk ⟨x⟩).toList = x from ByteArray.toList_mk x, show (ByteArray.mk ⟨y⟩).toList = y from ByteArray.toList_mk y]; rfl, .bool _⟩
theorem OpG.bin {op : BinOp} {t u : TypeId} {x y : Operand} {x' y' : Opd} (ho : o.op = .binOp op t x y u) (hx : cO P x = some x') (hy : cO P y = some y') {cl yl : Nat → List AV → St → Option (AV × St)}
    (h : evOp cl yl a s (.bin op x' y') = some (v, s')) : OpG w0 P a s s' o v := by
  obtain ⟨p, hp, h_⟩ := ob_some h; clear h; have h := h_; clear h_
  obtain ⟨q, hq, h_⟩ := ob_some h; clear h; have h := h_; clear h_
  obtain ⟨hv0, rfl⟩ := pureO_some h; clear h
  refine .pure fun m W act hg hr => ?_
  have h1 := rdo_spec hx hp hr (by simp [ho, Op.operands]) hg
  have h2 := rdo_spec hy hq hr (by simp [ho, Op.operands]) hg
  generalize hz1 : act.eval x = z1 at h1
  generalize hz2 : act.eval y = z2 at h2
  cases p <;> cases q <;> simp only [Proofs.Ytonckpblbdopmaa.Rk.bin] at hv0 <;> try cases hv0
  · cases h1; cases h2
    obtain ⟨r, e1, e2⟩ := run_binI (P := P) t hv0 W m
    exact ⟨r, by simp [execOp, ho, hz1, hz2, run_guard_int, e1], e2⟩
  · cases h1; cases h2
    obtain ⟨r, e1, e2⟩ := run_binS (P := P) t hv0 W m
    exact ⟨r, by simp [execOp, ho, hz1, hz2, run_guard_str, e1], e2⟩
theorem OpG.un {op : UnOp} {t : TypeId} {x : Operand} {x' : Opd} (ho : o.op = .unOp op t x) (hx : cO P x = some x') {cl yl : Nat → List AV → St → Option (AV × St)}
    (h : evOp cl yl a s (.un op x') = some (v, s')) : OpG w0 P a s s' o v := by
  obtain ⟨p, hp, h_⟩ := ob_some h; clear h; have h := h_; clear h_
  obtain ⟨hv0, rfl⟩ := pureO_some h; clear h
  refine .pure fun m W act hg hr => ?_
  have h1 := rdo_spec hx hp hr (by simp [ho, Op.operands]) hg
  generalize hz : act.eval x = z at h1
  cases op <;> cases p <;> simp only [Proofs.Ytonckpblbdopmaa.Rk.un, mkI_eq, mkB_eq] at hv0 <;> cases hv0
  · cases h1; exact ⟨_, by simp [execOp, ho, hz, Op.unary, Op.intArith]; rfl, by rw [Int.zero_sub]; exact .int _ _⟩
  · cases h1; exact ⟨_, by simp [execOp, ho, hz, Op.unary], .bool _⟩
theorem OpG.conv {k : IntKind} {t u : TypeId} {d : TypeDesc} {x : Operand} {x' : Opd} (ho : o.op = .convert t u x) (ht : P.underlying t = some d) (hu : P.underlying u = some (.int k)) (hx : cO P x = some x') {cl yl : Nat → List AV → St → Option (AV × St)}
    (h : evOp cl yl a s (.conv k x') = some (v, s')) : OpG w0 P a s s' o v := by
  obtain ⟨p, hp, h_⟩ := ob_some h; clear h; have h := h_; clear h_
  cases p <;> simp only at h <;> try cases h
  obtain ⟨hv0, rfl⟩ := pureO_some h; clear h
  rw [mkI_eq] at hv0; cases hv0
  refine .pure fun m W act hg hr => ?_
  have h1 := rdo_spec hx hp hr (by simp [ho, Op.operands]) hg
  generalize hz : act.eval x = z at h1
  cases h1
  exact ⟨_, by simp [execOp, ho, hz, convert, run_und ht, run_und hu, Conv.intToInt], .int _ _⟩
theorem OpG.ext {x : Operand} {i : Nat} {x' : Opd} (ho : o.op = .extract x i) (hx : cO P x = some x') {cl yl : Nat → List AV → St → Option (AV × St)} (h : evOp cl yl a s (.ext i x') = some (v, s')) : OpG w0 P a s s' o v := by
  obtain ⟨p, hp, h_⟩ := ob_some h; clear h; have h := h_; clear h_
  cases p <;> simp only at h <;> try cases h
  obtain ⟨hv0, rfl⟩ := pureO_some h; clear h
  refine .pure fun m W act hg hr => ?_
  have h1 := rdo_spec hx hp hr (by simp [ho, Op.operands]) hg
  generalize hz : act.eval x = z at h1
  cases h1
  rename_i vs hl hv
  obtain ⟨u, hu1, hu2⟩ := LR.get ⟨hl, hv⟩ hv0
  exact ⟨u, by simp [execOp, ho, hz, Instr.extract, hu1], hu2⟩
theorem OpG.faddr {st : TypeId} {x : Operand} {f n : Nat} {fs : Array Field} {fd : Field} {x' : Opd} (ho : o.op = .fieldAddr st x f) (hs : P.underlying st = some (.struct fs)) (hf : fs[f]? = some fd) (hn : szT P fd.type = some n) (h0 : n ≠ 0)
    (hx : cO P x = some x') {cl yl : Nat → List AV → St → Option (AV × St)} (h : evOp cl yl a s (.faddr fd.offset x') = some (v, s')) : OpG w0 P a s s' o v := by
  obtain ⟨p, hp, h_⟩ := ob_some h; clear h; have h := h_; clear h_
  cases p <;> simp only at h <;> try cases h
  rw [fN_eq] at h
  cases h
  refine .pure fun m W act hg hr => ?_
  have h1 := rdo_spec hx hp hr (by simp [ho, Op.operands]) hg
  generalize hz : act.eval x = z at h1
  cases h1
  rename_i b hb
  exact ⟨_, by simp [execOp, ho, hz, Instr.fieldAt, run_und hs, hf, Instr.sureAddr, fieldPlace, run_sz hn, h0, addr_add], .ptr _ hb⟩
theorem sub_some {α : Type} {l r : List α} {off n : Nat} (h : sub? l off n = some r) : off + n ≤ l.length ∧ r = (l.drop off).take n := by
  unfold sub? at h
  cases h1 : Nat.ble (off + n) l.length with
  | false => rw [h1] at h; cases h
  | true => rw [h1] at h; cases h; exact ⟨Nat.le_of_ble_eq_true h1, rfl⟩
theorem run_part {t : TypeId} {cs : Array Value} {l : List AV} {off : Nat} {n : Option Nat} {m : Tl} (hn : aggT P t = some n) (hl : LR m l cs.toList) (h : partA l off n = some v) (w : World) : ∃ u, (part t cs off).run P w = .ok u w ∧ VR m v u := by
  obtain ⟨h1, h2⟩ := run_agg hn w
  unfold part
  simp only [Sem.run_bind, h1, Result.andThen_ok]
  cases n with
  | none =>
    obtain ⟨u, hu1, hu2⟩ := hl.get (i := off) (a := v) h
    rw [Array.getElem?_toList] at hu1
    exact ⟨u, by simp [hu1], hu2⟩
  | some k =>
    obtain ⟨r, hr, h_⟩ := ob_some h; clear h; have h := h_; clear h_
    cases h
    obtain ⟨hle, rfl⟩ := sub_some hr
    refine ⟨.agg ⟨(cs.toList.drop off).take k⟩, ?_, ?_⟩
    · simp only [Option.isSome_some, if_true, Sem.run_bind, run_sz (h2 k rfl), Result.andThen_ok, Sem.run_pure]
      congr 2
      apply Array.ext'
      simp [Array.toList_extract]
    · have := (hl.drop off).take k
      exact .agg this.1 this.2
theorem OpG.field {t : TypeId} {x : Operand} {f : Nat} {fs : Array Field} {fd : Field} {n : Option Nat} {x' : Opd} (ho : o.op = .field t x f) (hs : P.underlying t = some (.struct fs)) (hf : fs[f]? = some fd) (hn : aggT P fd.type = some n)
    (hx : cO P x = some x') {cl yl : Nat → List AV → St → Option (AV × St)} (h : evOp cl yl a s (.field fd.offset n x') = some (v, s')) : OpG w0 P a s s' o v := by
  obtain ⟨p, hp, h_⟩ := ob_some h; clear h; have h := h_; clear h_
  cases p <;> simp only at h <;> try cases h
  obtain ⟨hv0, rfl⟩ := pureO_some h; clear h
  refine .pure fun m W act hg hr => ?_
  have h1 := rdo_spec hx hp hr (by simp [ho, Op.operands]) hg
  generalize hz : act.eval x = z at h1
  cases h1
  rename_i vs hl hv
  obtain ⟨u, hu1, hu2⟩ := run_part (cs := ⟨vs⟩) hn ⟨hl, hv⟩ hv0 W
  exact ⟨u, by simp [execOp, ho, hz, Instr.field, run_und hs, hf, asAgg, hu1], hu2⟩
theorem OpG.iaddrA {t e : TypeId} {x i : Operand} {len n : Nat} {x' i' : Opd} (ho : o.op = .indexAddr t x i) (ht : P.underlying t = some (.array len e)) (hn : szT P e = some n) (hx : cO P x = some x') (hi : cO P i = some i')
    {cl yl : Nat → List AV → St → Option (AV × St)} (h : evOp cl yl a s (.iaddrA len n x' i') = some (v, s')) : OpG w0 P a s s' o v := by
  obtain ⟨p, hp, h_⟩ := ob_some h; clear h; have h := h_; clear h_
  obtain ⟨q, hq, h_⟩ := ob_some h; clear h; have h := h_; clear h_
  split at h
  · rename_i nm off k j
    obtain ⟨hlt, h_⟩ := rec_some h; clear h; have h := h_; clear h_
    have hlt := Nat.le_of_ble_eq_true hlt
    rw [fN_eq] at h
    cases h
    refine .pure fun m W act hg hr => ?_
    have h1 := rdo_spec hx hp hr (by simp [ho, Op.operands]) hg
    have h2 := rdo_spec hi hq hr (by simp [ho, Op.operands]) hg
    generalize hz : act.eval x = z at h1
    generalize hy : act.eval i = y at h2
    cases h1; cases h2
    rename_i b hb
    have hc : (0 : Int) ≤ Int.ofNat j ∧ Int.ofNat j < (len : Int) := by simp only [Int.ofNat_eq_natCast]; omega
    exact ⟨_, by simp only [execOp, ho, hz, hy, Instr.indexAt, asIntOf, Instr.sureAddr, Sem.run_bind, Sem.run_pure, Result.andThen_ok, run_und ht, run_sz hn, hc, and_self, if_true, addr_add]; rfl, .ptr _ hb⟩
  · cases h
theorem VR.slice {m : Tl} {x : AV} {z : Value} {n off len : Nat} (h : VR m x z) (hx : (∃ cap, x = .sl n off len cap) ∨ (∃ k, x = .slu n off len k)) : ∃ b c, m n = some b ∧ z = .slice (some ⟨b, off, none⟩) len c ∧ len ≤ c := by
  rcases hx with ⟨cap, rfl⟩ | ⟨k, rfl⟩ <;> cases h <;> exact ⟨_, _, by assumption, rfl, by assumption⟩
theorem OpG.iaddrS {t e : TypeId} {x i : Operand} {n : Nat} {x' i' : Opd} (ho : o.op = .indexAddr t x i) (ht : P.underlying t = some (.slice e)) (hn : szT P e = some n) (hx : cO P x = some x') (hi : cO P i = some i')
    {cl yl : Nat → List AV → St → Option (AV × St)} (h : evOp cl yl a s (.iaddrS n x' i') = some (v, s')) : OpG w0 P a s s' o v := by
  obtain ⟨p, hp, h_⟩ := ob_some h; clear h; have h := h_; clear h_
  obtain ⟨q, hq, h_⟩ := ob_some h; clear h; have h := h_; clear h_
  have inv : ∃ nm off len k j, ((∃ cap, p = .sl nm off len cap) ∨ (∃ z, p = .slu nm off len z)) ∧ q = .int k (.ofNat j) ∧ Nat.ble (j + 1) len = true ∧ v = .ptr nm (off + j * n) ∧ s' = s := by
    split at h
    · rename_i nm off len cap k j
      obtain ⟨hlt, h_⟩ := rec_some h; clear h; have h := h_; clear h_
      rw [fN_eq] at h
      cases h
      exact ⟨_, _, _, _, _, .inl ⟨_, rfl⟩, rfl, hlt, rfl, rfl⟩
    · rename_i nm off len cap k j
      obtain ⟨hlt, h_⟩ := rec_some h; clear h; have h := h_; clear h_
      rw [fN_eq] at h
      cases h
      exact ⟨_, _, _, _, _, .inr ⟨_, rfl⟩, rfl, hlt, rfl, rfl⟩
    · cases h
  obtain ⟨nm, off, len, k, j, hps, rfl, hlt, rfl, rfl⟩ := inv
  have hlt := Nat.le_of_ble_eq_true hlt
  clear h
  refine .pure fun m W act hg hr => ?_
  have h1 := rdo_spec hx hp hr (by simp [ho, Op.operands]) hg
  have h2 := rdo_spec hi hq hr (by simp [ho, Op.operands]) hg
  generalize hz : act.eval x = z at h1
  generalize hy : act.eval i = y at h2
  have hc : (0 : Int) ≤ Int.ofNat j ∧ Int.ofNat j < (len : Int) := by simp only [Int.ofNat_eq_natCast]; omega
  obtain ⟨b, c, hb, rfl, _⟩ := h1.slice hps
  cases h2
  exact ⟨_, by simp only [execOp, ho, hz, hy, Instr.indexAt, asIntOf, Instr.sureAddr, Sem.run_bind, Sem.run_pure, Result.andThen_ok, run_und ht, run_sz hn, hc, and_self, if_true, addr_add]; rfl, .ptr _ hb⟩
theorem OpG.idxA {t e : TypeId} {x i : Operand} {len k : Nat} {n : Option Nat} {x' i' : Opd} (ho : o.op = .index t x i) (ht : P.underlying t = some (.array len e)) (hk : szT P e = some k) (hn : aggT P e = some n) (hx : cO P x = some x') (hi : cO P i = some i')
    {cl yl : Nat → List AV → St → Option (AV × St)} (h : evOp cl yl a s (.idxA len k n x' i') = some (v, s')) : OpG w0 P a s s' o v := by
  obtain ⟨p, hp, h_⟩ := ob_some h; clear h; have h := h_; clear h_
  obtain ⟨q, hq, h_⟩ := ob_some h; clear h; have h := h_; clear h_
  split at h
  · rename_i cs kk j
    obtain ⟨hlt, h_⟩ := rec_some h; clear h; have h := h_; clear h_
    have hlt := Nat.le_of_ble_eq_true hlt
    obtain ⟨hv0, rfl⟩ := pureO_some h; clear h
    refine .pure fun m W act hg hr => ?_
    have h1 := rdo_spec hx hp hr (by simp [ho, Op.operands]) hg
    have h2 := rdo_spec hi hq hr (by simp [ho, Op.operands]) hg
    generalize hz : act.eval x = z at h1
    generalize hy : act.eval i = y at h2
    have hc : (0 : Int) ≤ Int.ofNat j ∧ Int.ofNat j < (len : Int) := by simp only [Int.ofNat_eq_natCast]; omega
    cases h1; cases h2
    rename_i vs hl hv
    obtain ⟨u, hu1, hu2⟩ := run_part (cs := ⟨vs⟩) hn ⟨hl, hv⟩ hv0 W
    refine ⟨u, ?_, hu2⟩
    simp only [execOp, ho, hz, hy, Instr.index, asIntOf, Sem.run_bind, Sem.run_pure, Result.andThen_ok, run_und ht]
    rw [if_pos hc]
    simp only [Sem.run_bind, run_sz hk, Result.andThen_ok, Int.toNat_natCast, Int.ofNat_eq_natCast, hu1]
  · cases h
theorem OpG.idxS {t : TypeId} {x i : Operand} {x' i' : Opd} (ho : o.op = .index t x i) (ht : P.underlying t = some .string) (hx : cO P x = some x') (hi : cO P i = some i')
    {cl yl : Nat → List AV → St → Option (AV × St)} (h : evOp cl yl a s (.idxS x' i') = some (v, s')) : OpG w0 P a s s' o v := by
  obtain ⟨p, hp, h_⟩ := ob_some h; clear h; have h := h_; clear h_
  obtain ⟨q, hq, h_⟩ := ob_some h; clear h; have h := h_; clear h_
  split at h
  · rename_i l kk j
    obtain ⟨b, hb, h_⟩ := ob_some h; clear h; have h := h_; clear h_
    cases h
    refine .pure fun m W act hg hr => ?_
    have h1 := rdo_spec hx hp hr (by simp [ho, Op.operands]) hg
    have h2 := rdo_spec hi hq hr (by simp [ho, Op.operands]) hg
    generalize hz : act.eval x = z at h1
    generalize hy : act.eval i = y at h2
    cases h1; cases h2
    obtain ⟨hlt, hb'⟩ := List.getElem?_eq_some_iff.1 hb
    have hg' : (ByteArray.mk ⟨l⟩)[j]? = some b := by
      rw [ByteArray.getElem?_lt' _ _ (by exact hlt)]
      show some (l[j]) = some b
      rw [hb']
    have hc : (0 : Int) ≤ Int.ofNat j := by simp only [Int.ofNat_eq_natCast]; omega
    refine ⟨.int .u8 b.toNat, ?_, .int _ _⟩
    simp only [execOp, ho, hz, hy, Instr.index, asIntOf, Sem.run_bind, Sem.run_pure, Result.andThen_ok, run_und ht, Int.toNat_natCast, Int.ofNat_eq_natCast]
    rw [if_pos (by omega)]
    rw [hg']
    rfl
  · cases h
theorem lenA_run {t ty : TypeId} {x : AV} {n : Nat} {z : Value} {m : Tl} (h : lenA x = some n) (hz : VR m x z) (ht : (P.underlying t = some .string ∧ (∃ l, x = .str l)) ∨ (∃ e, P.underlying t = some (.slice e)) ∧ ¬ ∃ l, x = .str l) (w : World) :
    (Builtin.len_ #[t] ty #[z]).run P w = .ok (.int .i64 n) w := by
  cases x <;> simp only [lenA] at h <;> try cases h
  all_goals cases hz
  all_goals rcases ht with ⟨ht, hx⟩ | ⟨⟨e, ht⟩, hx⟩
  all_goals first
    | (exfalso; obtain ⟨l, hx⟩ := hx; cases hx; done)
    | (exfalso; exact hx ⟨_, rfl⟩)
    | (rw [run_len_string w t ty _ ht]; rfl)
    | (simp [Builtin.len_, run_und ht, goInt]; done)
theorem OpG.maxmin {mx : Bool} {ats : Array TypeId} {x y : Operand} {x' y' : Opd} (ho : o.op = .call { callee := .builtin (if mx then .max else .min), args := #[x, y], argTypes := ats }) (hx : cO P x = some x') (hy : cO P y = some y')
    {cl yl : Nat → List AV → St → Option (AV × St)} (h : evOp cl yl a s (if mx then .max x' y' else .min x' y') = some (v, s')) : OpG w0 P a s s' o v := by
  cases mx
  · simp only [Bool.false_eq_true, if_false] at ho h
    obtain ⟨p, hp, h_⟩ := ob_some h; clear h; have h := h_; clear h_
    obtain ⟨q, hq, h_⟩ := ob_some h; clear h; have h := h_; clear h_
    split at h
    · rename_i k i k' j
      cases h
      refine .pure fun m W act hg hr => ?_
      have h1 := rdo_spec hx hp hr (by simp [ho, Op.operands, Call.operands]) hg
      have h2 := rdo_spec hy hq hr (by simp [ho, Op.operands, Call.operands]) hg
      generalize hz : act.eval x = z at h1
      generalize hz' : act.eval y = z' at h2
      cases h1; cases h2
      refine ⟨.int k (if j < i then j else i), ?_, ?_⟩
      · simp [execOp, ho, hz, hz', resolve, invoke, builtin, Builtin.min_, Builtin.min2]
      · have : (Bool.rec j i (ble i j) : Int) = if j < i then j else i := by
          rw [ble_eq]
          by_cases h : i ≤ j
          · simp only [h, decide_true]; rw [if_neg (by omega)]
          · simp only [h, decide_false]; rw [if_pos (by omega)]
        rw [this]; exact .int _ _
    · cases h
  · simp only [if_true] at ho h
    obtain ⟨p, hp, h_⟩ := ob_some h; clear h; have h := h_; clear h_
    obtain ⟨q, hq, h_⟩ := ob_some h; clear h; have h := h_; clear h_
    split at h
    · rename_i k i k' j
      cases h
      refine .pure fun m W act hg hr => ?_
      have h1 := rdo_spec hx hp hr (by simp [ho, Op.operands, Call.operands]) hg
      have h2 := rdo_spec hy hq hr (by simp [ho, Op.operands, Call.operands]) hg
      generalize hz : act.eval x = z at h1
      generalize hz' : act.eval y = z' at h2
      cases h1; cases h2
      refine ⟨.int k (if j > i then j else i), ?_, ?_⟩
      · simp [execOp, ho, hz, hz', resolve, invoke, builtin, Builtin.max_, Builtin.max2]
      · have : (Bool.rec j i (ble j i) : Int) = if j > i then j else i := by
          rw [ble_eq]
          by_cases h : j ≤ i
          · simp only [h, decide_true]; rw [if_neg (by omega)]
          · simp only [h, decide_false]; rw [if_pos (by omega)]
        rw [this]; exact .int _ _
    · cases h
end
end Go.Proofs.Ytonckpblbdopmaa.Rk
