/-
  Reckoning a program in the kernel: copy, make, bytes as text, maps of numbers. Nothing of the program.
-/
import Derived.Test.YtonckpblbdopmaaRuc
import Derived.Laws.BytesString
namespace Go.Proofs.Ytonckpblbdopmaa.Rk
set_option linter.unusedVariables false
open Go
set_option maxHeartbeats 1000000
set_option linter.unusedSimpArgs false

section
variable {w0 : World} {P : Program} {G : Nat} {a : Tri AV} {s s' : St} {o : Oper} {v : AV} {m : Tl} {H : Hp} {W : World}
theorem OpG.copy {t u e : TypeId} {k : Nat} {x y : Operand} {x' y' : Opd} (ho : o.op = .call { callee := .builtin .copy, args := #[x, y], argTypes := #[t, u] }) (ht : P.underlying t = some (.slice e)) (hk : szT P e = some k) (hx : cO P x = some x') (hy : cO P y = some y')
    {cl yl : Nat → List AV → St → Option (AV × St)} (h : evOp cl yl a s (.copy k x' y') = some (v, s')) : OpG w0 P a s s' o v := by
  obtain ⟨p, hp, h_⟩ := ob_some h; clear h; have h := h_; clear h_
  obtain ⟨q, hq, h_⟩ := ob_some h; clear h; have h := h_; clear h_
  obtain ⟨ny, hny, h_⟩ := ob_some h; clear h; have h := h_; clear h_
  obtain ⟨nx, hnx, h_⟩ := ob_some h; clear h; have h := h_; clear h_
  rw [fN_eq] at h
  obtain ⟨⟨new, s1⟩, hnew, h_⟩ := ob_some h; clear h; have h := h_; clear h_
  obtain ⟨T1, g1, hn1, hfirst⟩ := firstA_spec (w0 := w0) (P := P) hnew
  have hexec : ∀ (act : Act) (W : World), (execOp act.eval o).run P W = ((Builtin.copy_ #[t, u] o.type #[act.eval x, act.eval y]).run P W).andThen fun r w => .ok (.value r) w := by
    intro act W
    simp [execOp, ho, resolve, invoke, builtin]
  have hxm : x ∈ o.op.operands.toList := by simp [ho, Op.operands, Call.operands]
  have hym : y ∈ o.op.operands.toList := by simp [ho, Op.operands, Call.operands]
  have hnil : p = .nils → new = new → OpG w0 P a s s1 o (.int .i64 (Nat.min ny nx)) := by
    rintro rfl _
    refine ⟨T1, [], g1, fun m H W act K hg ha hf hr hK => ?_⟩
    have h1 := rdo_spec hx hp hr hxm hg.glob
    have h2 := rdo_spec hy hq hr hym hg.glob
    generalize hzx : act.eval x = zx at h1
    cases h1
    cases hnx
    obtain ⟨arr, hrun, hl⟩ := hfirst m H W _ T1 _ hg ha (fun k hk => hk) h2
    have hr2 : (Builtin.copy_ #[t, u] o.type #[.slice none 0 0, act.eval y]).run P W = .ok (goInt (Nat.min ny 0)) W := by
      unfold Builtin.copy_
      simp only [List.getElem?_toArray, List.getElem?_cons_zero, List.getElem?_cons_succ, Sem.run_bind, run_und ht, run_sz hk, Result.andThen_ok, Sem.run_pure, run_lenOf hny h2, hrun W rfl]
    rw [hexec, hzx, hr2]
    exact hK m _ W (Stp.looked g1 hn1 hg) (.int _ _)
  have hsl : ∀ b off, ((∃ cap, p = .sl b off nx cap) ∨ (∃ z, p = .slu b off nx z)) → ∀ s2, storeA b off new s1 = some s2 → OpG w0 P a s s2 o (.int .i64 (Nat.min ny nx)) := by
    intro b off hps s2 hst
    obtain ⟨T2, g2, hT2, hn2, hst'⟩ := storeA_spec (w0 := w0) (P := P) hst
    refine ⟨T2 ++ T1, [b] ++ [], g1.trans g2, fun m H W act K hg ha hf hr hK => ?_⟩
    have h1 := rdo_spec hx hp hr hxm hg.glob
    have h2 := rdo_spec hy hq hr hym hg.glob
    generalize hzx : act.eval x = zx at h1
    obtain ⟨b', c, hm, rfl, hle⟩ := h1.slice hps
    obtain ⟨arr, hrun, hl⟩ := hfirst m H W _ (T2 ++ T1) _ hg ha (fun k hk => by simp [hk]) h2
    obtain ⟨bb, W', hb1', hrunS, hstp⟩ := hst' m H W _ arr.toList hg (Agree.after g1 hn1 ha) hl
    rw [hm] at hb1'; cases hb1'
    have hr2 : (Builtin.copy_ #[t, u] o.type #[.slice (some ⟨b', off, none⟩) nx c, act.eval y]).run P W = .ok (goInt (Nat.min ny nx)) W' := by
      unfold Builtin.copy_
      simp only [List.getElem?_toArray, List.getElem?_cons_zero, List.getElem?_cons_succ, Sem.run_bind, run_und ht, run_sz hk, Result.andThen_ok, Sem.run_pure, run_lenOf hny h2, hrun W rfl, hrunS]
    rw [hexec, hzx, hr2]
    exact hK m _ W' (by simpa using Stp.after g1 hn1 g2 hg hstp) (.int _ _)
  dsimp only at h
  split at h
  · cases h; exact hnil rfl rfl
  · rename_i b off len cap
    obtain ⟨_, h_⟩ := rec_some h; clear h; have h := h_; clear h_
    obtain ⟨s2, hst, h_⟩ := ob_some h; clear h; have h := h_; clear h_
    cases h
    cases hnx
    exact hsl b off (.inl ⟨_, rfl⟩) _ hst
  · rename_i b off len z
    obtain ⟨_, h_⟩ := rec_some h; clear h; have h := h_; clear h_
    obtain ⟨s2, hst, h_⟩ := ob_some h; clear h; have h := h_; clear h_
    cases h
    cases hnx
    exact hsl b off (.inr ⟨_, rfl⟩) _ hst
  · cases h
theorem OpG.mksl {t e : TypeId} {i : TypeInfo} {z : List AV} {l c : Operand} {l' c' : Opd} (ho : o.op = .makeSlice t l c) (ht : P.underlying t = some (.slice e)) (hi : P.info? e = some i) (hz : zCells P e = some z) (hzl : z.length = i.size) (hz0 : i.size ≠ 0) (hl : cO P l = some l') (hc : cO P c = some c')
    {cl yl : Nat → List AV → St → Option (AV × St)} (h : evOp cl yl a s (.mksl z i.bytes l' c') = some (v, s')) : OpG w0 P a s s' o v := by
  obtain ⟨p, hp, h_⟩ := ob_some h; clear h; have h := h_; clear h_
  obtain ⟨q, hq, h_⟩ := ob_some h; clear h; have h := h_; clear h_
  split at h
  · rename_i lq cq
    obtain ⟨hb, h_⟩ := rec_some h; clear h; have h := h_; clear h_
    simp only [Bool.and_eq_true] at hb
    obtain ⟨hb, hb2⟩ := hb
    have hb := Nat.le_of_ble_eq_true hb
    have hb2 := Nat.le_of_ble_eq_true hb2
    obtain ⟨hle, h_⟩ := rec_some h; clear h; have h := h_; clear h_
    have hle := Nat.le_of_ble_eq_true hle
    obtain ⟨⟨n, s1⟩, hal, h_⟩ := ob_some h; clear h; have h := h_; clear h_
    cases h
    obtain ⟨hn, hseg, hnx, _⟩ := allocO_spec hal
    refine ⟨[], [], hseg, fun m H W act K hg ha hf hr hK => ?_⟩
    have h1 := rdo_spec hl hp hr (by simp [ho, Op.operands]) hg.glob
    have h2 := rdo_spec hc hq hr (by simp [ho, Op.operands]) hg.glob
    generalize hzl' : act.eval l = zl at h1
    generalize hzc' : act.eval c = zc at h2
    cases h1; cases h2
    obtain ⟨u, hu, hlz⟩ := zCells_spec hz m
    have hsz : szT P e = some i.size := by simp [szT, hi]
    have hwl : IntKind.i64.wrap (Int.ofNat lq) = (lq : Int) := by simp [IntKind.wrap, IntKind.bits, IntKind.signed]; omega
    have hwc : IntKind.i64.wrap (Int.ofNat cq) = (cq : Int) := by simp [IntKind.wrap, IntKind.bits, IntKind.signed]; omega
    have hbz : ¬ ((i.bytes : Int) * (cq : Int) > 2 ^ 48) := by
      have : (i.bytes : Int) * (cq : Int) = ((i.bytes * cq : Nat) : Int) := by push_cast; rfl
      rw [this]
      have h48 : ((2 : Int) ^ 48) = ((281474976710656 : Nat) : Int) := by decide
      rw [h48]
      omega
    let row : Array Value := if cq * i.size = 0 then #[] else (Array.range (cq * i.size)).map (u.cells[· % u.cells.size]!)
    have hrow : LR m (List.replicate cq z).flatten row.toList := by
      have hz00 : 0 < z.length := by omega
      show LR m _ (if cq * i.size = 0 then #[] else _ : Array Value).toList
      split
      · rename_i h0
        have : cq = 0 := by rcases Nat.mul_eq_zero.1 h0 with h | h <;> omega
        subst this
        exact LR.nil m
      · have := LR.zeros (len := cq) hlz hz00
        rw [hzl] at this
        exact this
    obtain ⟨k1, k2, k3⟩ := alloc_row hal (el := e) hg hf hrow
    have hrun : (execOp act.eval o).run P W = .ok (.value (.slice (some ⟨W.heap.size, 0, none⟩) lq cq)) { W with heap := W.heap.push (.cells row e) } := by
      simp only [execOp, ho, hzl', hzc', Instr.makeSlice, asInt, asIntOf, Sem.run_bind, run_und ht, run_info hi, Result.andThen_ok, Sem.run_pure, hwl, hwc]
      rw [if_neg]
      · simp only [Sem.run_bind, run_askRoom, Result.andThen_ok, run_sz hsz, Int.toNat_natCast, Sem.run_pure]
        by_cases h0 : cq * i.size = 0
        · rw [if_pos h0]
          simp only [Sem.run_bind, Sem.run_pure, Result.andThen_ok]
          have : row = (Array.range (cq * i.size)).map ((#[] : Array Value)[· % (#[] : Array Value).size]!) := by
            show (if cq * i.size = 0 then #[] else _ : Array Value) = _
            rw [if_pos h0, h0]
            simp
          rw [← this, k1]
          rfl
        · rw [if_neg h0]
          simp only [Sem.run_bind, run_zero hu, Sem.run_pure, Result.andThen_ok]
          have : row = (Array.range (cq * i.size)).map (u.cells[· % u.cells.size]!) := by
            show (if cq * i.size = 0 then #[] else _ : Array Value) = _
            rw [if_neg h0]
          rw [← this, k1]
          rfl
      · simp only [Bool.or_eq_true, decide_eq_true_eq, not_or]
        refine ⟨⟨⟨by omega, hbz⟩, by omega⟩, by omega⟩
    rw [hrun]
    exact hK _ _ _ k2 (.sl 0 lq cq k3 hle)
  · cases h
theorem u8s_spec : ∀ {cs : List AV} {l : List UInt8} {vs : List Value}, u8s cs = some l → LR m cs vs → ∃ ns : List Int, vs = ns.map (Value.int .u8) ∧ ns.map (fun n => UInt8.ofNat n.toNat) = l
  | [], l, vs, h, hl => by cases h; have := hl.inv_nil; subst this; exact ⟨[], rfl, rfl⟩
  | c :: cs, l, vs, h, hl => by
    obtain ⟨u, us, rfl, h1, h2⟩ := hl.inv_cons
    have h' : (match (generalizing := false) c with
      | .int .u8 (.ofNat n) => ob (u8s cs) fun l => some (UInt8.ofNat n :: l)
      | _ => none) = some l := h
    split at h'
    · rename_i n
      obtain ⟨l', hl', h3⟩ := ob_some h'
      cases h3
      obtain ⟨ns, rfl, rfl⟩ := u8s_spec hl' h2
      cases h1
      exact ⟨(n : Int) :: ns, rfl, by simp⟩
    · cases h'
theorem OpG.b2s {t u e : TypeId} {x : Operand} {x' : Opd} (ho : o.op = .convert t u x) (ht : P.underlying t = some (.slice e)) (hu : P.underlying u = some .string) (he : isU8 P e = true) (hx : cO P x = some x') {cl yl : Nat → List AV → St → Option (AV × St)}
    (h : evOp cl yl a s (.b2s x') = some (v, s')) : OpG w0 P a s s' o v := by
  have he' : P.underlying e = some (.int .u8) := by
    unfold isU8 at he
    split at he
    · assumption
    · cases he
  obtain ⟨p, hp, h_⟩ := ob_some h; clear h; have h := h_; clear h_
  have hxm : x ∈ o.op.operands.toList := by simp [ho, Op.operands]
  have hexec : ∀ (act : Act) (W : World) (b : Option Addr) (len cap : Nat), act.eval x = .slice b len cap → (execOp act.eval o).run P W = ((Conv.bytesToString (.slice b len cap)).run P W).andThen fun r w => .ok (.value r) w := by
    intro act W b len cap hz
    simp only [execOp, ho, hz, convert, Sem.run_bind, run_und ht, run_und hu, run_und he', Result.andThen_ok, Sem.run_pure]
  have hsl : ∀ b off len, ((∃ cap, p = .sl b off len cap) ∨ (∃ z, p = .slu b off len z)) → ob (rowA b off len s) (fun r => ob (u8s r.1) fun l => some (AV.str l, r.2)) = some (v, s') → OpG w0 P a s s' o v := by
    intro b off len hps h
    obtain ⟨⟨cs, s1⟩, hrow, h_⟩ := ob_some h; clear h; have h := h_; clear h_
    obtain ⟨l, hl0, h_⟩ := ob_some h; clear h; have h := h_; clear h_
    cases h
    obtain ⟨g1, hn1, hblt, hrow'⟩ := rowA_spec (w0 := w0) (P := P) hrow
    refine ⟨[b], [], g1, fun m H W act K hg ha hf hr hK => ?_⟩
    have h1 := rdo_spec hx hp hr hxm hg.glob
    generalize hz : act.eval x = z at h1
    obtain ⟨b', c, hm, rfl, hle⟩ := h1.slice hps
    obtain ⟨cc, arr, hc1, hc2, hc3⟩ := hrow' m H W _ [b] hg ha (by simp)
    rw [hm] at hc1; cases hc1
    obtain ⟨ns, hns, hl⟩ := u8s_spec hl0 hc3
    have harr : arr = (ns.map (Value.int .u8)).toArray := by apply Array.ext'; simpa using hns
    rw [hexec act W _ _ _ hz, run_bytesToString W _ len c ns (by rw [hc2 W rfl, harr]), foldl_push_bytes]
    simp only [Result.andThen_ok]
    refine hK m _ W (Stp.looked g1 hn1 hg) ?_
    have : (⟨ByteArray.empty.data ++ (ns.map fun n => UInt8.ofNat n.toNat).toArray⟩ : ByteArray) = ⟨⟨l⟩⟩ := by
      rw [hl]
      congr 1
      apply Array.ext'
      simp [ByteArray.empty, ByteArray.emptyWithCapacity]
      rfl
    rw [this]
    exact .str l
  split at h
  · cases h
    refine .pure fun m W act hg hr => ?_
    have h1 := rdo_spec hx hp hr hxm hg
    generalize hz : act.eval x = z at h1
    cases h1
    rw [hexec act W _ _ _ hz]
    exact ⟨.string ⟨⟨[]⟩⟩, rfl, .str []⟩
  · exact hsl _ _ _ (.inl ⟨_, rfl⟩) h
  · exact hsl _ _ _ (.inr ⟨_, rfl⟩) h
  · cases h
end
end Go.Proofs.Ytonckpblbdopmaa.Rk
