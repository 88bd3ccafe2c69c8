/-
  Reckoning a program in the kernel: append and copy. Nothing of the program.
-/
import Derived.Test.YtonckpblbdopmaaRub
namespace Go.Proofs.Ytonckpblbdopmaa.Rk
set_option linter.unusedVariables false
open Go
set_option maxHeartbeats 1000000
set_option linter.unusedSimpArgs false

section
variable {w0 : World} {P : Program} {G : Nat} {a : Tri AV} {s s' : St} {o : Oper} {v : AV} {m : Tl} {H : Hp} {W : World}
theorem updH_looked {s1 : St} (hn : s1.nx = s.nx) : updH H s s1 [] = H := by
  funext n
  unfold updH
  rw [if_neg]
  rintro (h | h)
  · cases h
  · omega
theorem Stp.after {s1 s2 : St} {T1 T2 W2 : List Nat} {m2 : Tl} {Wb : World} (g1 : Seg s s1 T1 []) (hn : s1.nx = s.nx) (g2 : Seg s1 s2 T2 W2) (hg : Good w0 P G m H W) (h2 : Stp w0 P G s1 s2 W2 m m2 H W Wb) : Stp w0 P G s s2 W2 m m2 H W Wb := by
  have := Stp.trans (W1 := []) g1 g2 (Stp.looked g1 hn hg) (by rw [updH_looked hn]; exact h2)
  simpa using this
theorem Agree.after {s1 : St} {T1 T2 : List Nat} (g1 : Seg s s1 T1 []) (hn : s1.nx = s.nx) (h : Agree H s (T2 ++ T1)) : Agree H s1 T2 := by
  have := Agree.left g1 h
  rwa [updH_looked hn] at this
theorem Fresh.after {s1 s2 : St} (hn : s1.nx = s.nx) (h : Fresh m s s2) : Fresh m s1 s2 := fun n h1 h2 => h n (by omega) h2
theorem ow_take_app {α : Type} : ∀ (us l : List α) (k : Nat), k + us.length ≤ l.length → (ow us l k).take (k + us.length) = l.take k ++ us
  | [], l, k, _ => by simp [ow]
  | u :: us, l, k, h => by
    simp only [List.length_cons] at h
    have ih := ow_take_app us (l.set k u) (k + 1) (by simp; omega)
    simp only [ow, List.length_cons]
    rw [show k + (us.length + 1) = k + 1 + us.length by omega, ih]
    have : (l.set k u).take (k + 1) = l.take k ++ [u] := by
      rw [List.take_add_one, List.getElem?_set, if_pos rfl, if_pos (by omega)]
      rw [List.take_set_of_le (Nat.le_refl k)]
      rfl
    rw [this]
    simp
/-- The new row of an append. -/
theorem OR.row {m' : Tl} {cs : List AV} {old new rest : Array Value} {e : TypeId} (h : LR m' cs (old.toList ++ new.toList)) : OR P m' (.cells cs false) (.cells (old ++ new ++ rest) e) := by
  have hlen : cs.length ≤ (old ++ new ++ rest).size := by
    have := h.1
    simp at this
    simp; omega
  refine .cells (lo := 0) (hi := 0) hlen (fun h => by cases h) (fun i x hx => ?_) (fun i _ h => by omega)
  obtain ⟨u, hu, hu'⟩ := h.get hx
  refine ⟨u, ?_, hu'⟩
  rw [← Array.getElem?_toList, Array.toList_append, Array.toList_append, List.getElem?_append_left]
  · exact hu
  · exact (List.getElem?_eq_some_iff.1 hu).1
theorem alloc_app {s1 : St} {cs : List AV} {n : Nat} (h : allocO (.cells cs false) s = some (n, s1)) {old new rest : Array Value} {e : TypeId} {W' : World} (hg : Good w0 P G m H W) (hf : Fresh m s s1) (hl : LR m cs (old.toList ++ new.toList)) (hW : W'.heap = W.heap.push (.cells (old ++ new ++ rest) e)) (hrest : SameOut W W') :
    Stp w0 P G s s1 [] m (mSet m n W.heap.size (old ++ new ++ rest).size) H W W' ∧ mSet m n W.heap.size (old ++ new ++ rest).size n = some W.heap.size ∧ (mSet m n W.heap.size (old ++ new ++ rest).size).c n = (old ++ new ++ rest).size := by
  obtain ⟨hn, hseg, hnx, _⟩ := allocO_spec h
  have hm0 : m n = none := hf n (by omega) (by omega)
  refine ⟨?_, mSet_same _ _ _ _, mSet_c _ _ _ _⟩
  refine Stp.alloc h hg hf (ob := .cells (old ++ new ++ rest) e) _ (by rw [hW]; simp) (fun k hk => by rw [hW]; simp [Array.getElem?_push, Nat.ne_of_lt hk]) (OR.row (hl.mono (mSet_ext hm0))) (fun c' el' fr' q => by cases q; exact (mSet_c _ _ _ _).symm) hrest
theorem OpG.app {t u e : TypeId} {d : TypeDesc} {i : TypeInfo} {z : Value} {x y : Operand} {x' y' : Opd} (ho : o.op = .call { callee := .builtin .append, args := #[x, y], argTypes := #[t, u] }) (ht : P.underlying t = some (.slice e)) (hu : P.underlying u = some d) (hd : ∀ k, d ≠ .int k) (hi : P.info? e = some i)
    (hz : zeroT P e = some z) (hzs : z.cells.size = i.size) (hs0 : i.size ≠ 0) (hb0 : i.bytes ≠ 0) (hb1 : i.bytes ≤ 1048576) (hx : cO P x = some x') (hy : cO P y = some y') {cl yl : Nat → List AV → St → Option (AV × St)} (h : evOp cl yl a s (.app i.size x' y') = some (v, s')) : OpG w0 P a s s' o v := by
  obtain ⟨p, hp, h_⟩ := ob_some h; clear h; have h := h_; clear h_
  obtain ⟨q, hq, h_⟩ := ob_some h; clear h; have h := h_; clear h_
  obtain ⟨n, hn, h_⟩ := ob_some h; clear h; have h := h_; clear h_
  obtain ⟨⟨new, s1⟩, hnew, h_⟩ := ob_some h; clear h; have h := h_; clear h_
  obtain ⟨hone, h_⟩ := rec_some h; clear h; have h := h_; clear h_
  simp only [Bool.and_eq_true] at hone
  obtain ⟨hone, hlen⟩ := hone
  have hlen := Nat.eq_of_beq_eq_true hlen
  obtain ⟨T1, g1, hn1, hfirst⟩ := firstA_spec (w0 := w0) (P := P) hnew
  have hexec : ∀ (act : Act) (W : World), (execOp act.eval o).run P W = ((Builtin.append_ #[t, u] o.type #[act.eval x, act.eval y]).run P W).andThen fun r w => .ok (.value r) w := by
    intro act W
    simp [execOp, ho, resolve, invoke, builtin]
  have hxm : x ∈ o.op.operands.toList := by simp [ho, Op.operands, Call.operands]
  have hym : y ∈ o.op.operands.toList := by simp [ho, Op.operands, Call.operands]
  split at h
  · -- nil
    obtain ⟨hsm, h_⟩ := rec_some h; clear h; have h := h_; clear h_
    have hsm := Nat.le_of_ble_eq_true hsm
    rcases rec_two h with ⟨hn0, h⟩ | ⟨hn0, h⟩
    · obtain ⟨⟨nm, s2⟩, hal, h_⟩ := ob_some h; clear h; have h := h_; clear h_
      cases h
      have hn0 : n ≠ 0 := Nat.ne_of_beq_eq_false hn0
      obtain ⟨hnm, g2, hnx2, _⟩ := allocO_spec hal
      refine ⟨[] ++ T1, [] ++ [], g1.trans g2, fun m H W act K hg ha hf hr hK => ?_⟩
      have h1 := rdo_spec hx hp hr hxm hg.glob
      have h2 := rdo_spec hy hq hr hym hg.glob
      generalize hzx : act.eval x = zx at h1
      cases h1
      obtain ⟨arr, hrun, hl⟩ := hfirst m H W _ T1 _ hg (by simpa using ha) (fun k hk => hk) h2
      obtain ⟨nc, rest, W', ⟨q1, q1b⟩, q2, q3, q3r, q4⟩ := run_append_new (base := none) (sLen := 0) (sCap := 0) (old := #[]) (ty := o.type) ht hu hd hi hz hzs hb0 hb1 (by omega) (run_lenOf hn h2 W) (by omega) (fun w _ => rfl) hrun
      obtain ⟨k1, k2, k3⟩ := alloc_app (s := s1) (old := #[]) (new := arr) (rest := rest) (e := e) hal hg (Fresh.after hn1 hf) (by simpa using hl) q3 q3r
      rw [hexec, hzx, q4]
      refine hK _ _ W' (Stp.after g1 hn1 g2 hg k1) ?_
      rw [Nat.zero_add] at q1 q2 ⊢
      refine .slu 0 n i.size nc k2 q1 ?_ q1b
      rw [k3]
      have : arr.size = n * i.size := by rw [← hlen, hl.1]; simp
      simp [this, q2]
      rw [← Nat.add_mul]
      exact Nat.le_of_eq (by congr 1; omega)
    · cases h
      have hn0 := Nat.eq_of_beq_eq_true hn0
      subst hn0
      refine ⟨T1, [], g1, fun m H W act K hg ha hf hr hK => ?_⟩
      have h1 := rdo_spec hx hp hr hxm hg.glob
      have h2 := rdo_spec hy hq hr hym hg.glob
      generalize hzx : act.eval x = zx at h1
      cases h1
      obtain ⟨arr, hrun, hl⟩ := hfirst m H W _ T1 _ hg ha (fun k hk => hk) h2
      rw [hexec, hzx, run_append_in (W' := W) ht hu hd hi (run_lenOf hn h2 W) (Nat.le_refl 0) (hrun W rfl) (fun b hb => by cases hb) (fun _ => rfl)]
      exact hK m _ W (Stp.looked g1 hn1 hg) .nils
  · -- room is told
    rename_i b off len cap
    obtain ⟨hsm, h_⟩ := rec_some h; clear h; have h := h_; clear h_
    have hsm := Nat.le_of_ble_eq_true hsm
    rcases rec_two h with ⟨hc, h⟩ | ⟨hc, h⟩
    · obtain ⟨⟨old, s2⟩, hrow, h_⟩ := ob_some h; clear h; have h := h_; clear h_
      obtain ⟨⟨nm, s3⟩, hal, h_⟩ := ob_some h; clear h; have h := h_; clear h_
      cases h
      have hc : ¬ len + n ≤ cap := fun e => by rw [Nat.ble_eq_true_of_le e] at hc; cases hc
      obtain ⟨g2, hn2, hblt, hrow'⟩ := rowA_spec (w0 := w0) (P := P) hrow
      obtain ⟨hnm, g3, hnx3, _⟩ := allocO_spec hal
      have g12 := g1.trans g2
      have hn12 : s2.nx = s.nx := by omega
      refine ⟨[] ++ ([b] ++ T1), [] ++ ([] ++ []), g12.trans g3, fun m H W act K hg ha hf hr hK => ?_⟩
      have h1 := rdo_spec hx hp hr hxm hg.glob
      have h2 := rdo_spec hy hq hr hym hg.glob
      generalize hzx : act.eval x = zx at h1
      obtain ⟨b', c, hm, rfl, hle⟩ := h1.slice (.inl ⟨_, rfl⟩)
      cases h1
      have haA : Agree H s ([b] ++ T1) := by simpa using ha
      have ha1 : Agree H s1 [b] := Agree.after g1 hn1 haA
      have hgw : ∀ w : World, w.heap = W.heap → Good w0 P P.globals.size m H w := fun w hw => hg.of_heap hw
      obtain ⟨arr, hrun, hl⟩ := hfirst m H W _ ([b] ++ T1) _ hg haA (fun k hk => by simp [hk]) h2
      obtain ⟨cc, oarr, ho1, ho2, ho3⟩ := hrow' m H W _ [b] hg ha1 (by simp)
      rw [hm] at ho1; cases ho1
      obtain ⟨nc, rest, W', ⟨q1, q1b⟩, q2, q3, q3r, q4⟩ := run_append_new (base := some ⟨b', off, none⟩) (sLen := len) (sCap := cap) (ty := o.type) ht hu hd hi hz hzs hb0 hb1 hsm (run_lenOf hn h2 W) (by omega) ho2 hrun
      obtain ⟨k1, k2, k3⟩ := alloc_app (s := s2) (old := oarr) (new := arr) (rest := rest) (e := e) hal hg (Fresh.after hn12 hf) (ho3.append hl) q3 q3r
      rw [hexec, hzx, q4]
      obtain ⟨SZ, hSZ⟩ : ∃ k, (oarr ++ arr ++ rest).size = k := ⟨_, rfl⟩
      rw [hSZ] at k1 k2 k3
      refine hK _ _ W' (by simpa using Stp.after (by simpa using g12) hn12 g3 hg k1) ?_
      refine .slu 0 (len + n) i.size nc k2 q1 ?_ q1b
      rw [k3, ← hSZ]
      have e1 : arr.size = n * i.size := by rw [← hlen, hl.1]; simp
      have e2 : oarr.size = len * i.size := by
        have h3 := ho3.1
        obtain ⟨⟨cs0, ex0, s0⟩, hr0, hrow2⟩ := ob_some hrow
        obtain ⟨l0, hl0, hrow2⟩ := ob_some hrow2
        cases hrow2
        obtain ⟨hle0, rfl⟩ := sub_some hl0
        have h4 : ((cs0.drop off).take (len * i.size)).length = oarr.toList.length := h3
        simp at h4
        omega
      simp [e1, e2, q2]
      have : nc * i.size = len * i.size + n * i.size + (nc - (len + n)) * i.size := by
        rw [← Nat.add_mul, ← Nat.add_mul]
        congr 1
        omega
      omega
    · obtain ⟨s2, hst, h_⟩ := ob_some h; clear h; have h := h_; clear h_
      cases h
      have hc := Nat.le_of_ble_eq_true hc
      obtain ⟨T2, g2, hT2, hn2, hst'⟩ := storeA_spec (w0 := w0) (P := P) hst
      refine ⟨T2 ++ T1, [b] ++ [], g1.trans g2, fun m H W act K hg ha hf hr hK => ?_⟩
      have h1 := rdo_spec hx hp hr hxm hg.glob
      have h2 := rdo_spec hy hq hr hym hg.glob
      generalize hzx : act.eval x = zx at h1
      obtain ⟨b', c, hm, rfl, hle⟩ := h1.slice (.inl ⟨_, rfl⟩)
      cases h1
      obtain ⟨arr, hrun, hl⟩ := hfirst m H W _ (T2 ++ T1) _ hg ha (fun k hk => by simp [hk]) h2
      obtain ⟨bb, W', hb1', hrunS, hstp⟩ := hst' m H W _ arr.toList hg (Agree.after g1 hn1 ha) hl
      rw [hm] at hb1'; cases hb1'
      rw [hexec, hzx, run_append_in (W' := W') ht hu hd hi (run_lenOf hn h2 W) hc (hrun W rfl) (fun b0 hb0 => by cases hb0; rw [addr_add]; exact hrunS) (fun h => by cases h)]
      exact hK m _ W' (by simpa using Stp.after g1 hn1 g2 hg hstp) (.sl off (len + n) cap hm hc)
  · -- room is not told
    rename_i b len z0
    obtain ⟨hsm, h_⟩ := rec_some h; clear h; have h := h_; clear h_
    simp only [Bool.and_eq_true] at hsm
    obtain ⟨hsm, hz0⟩ := hsm
    have hsm := Nat.le_of_ble_eq_true hsm
    have hz0 := Nat.eq_of_beq_eq_true hz0
    subst hz0
    rcases rec_two h with ⟨hn0, h⟩ | ⟨hn0, h⟩
    · obtain ⟨⟨cs, ex, s2⟩, hcells, h_⟩ := ob_some h; clear h; have h := h_; clear h_
      obtain ⟨hcl, h_⟩ := rec_some h; clear h; have h := h_; clear h_
      have hcl := Nat.eq_of_beq_eq_true hcl
      obtain ⟨s3, hput, h_⟩ := ob_some h; clear h; have h := h_; clear h_
      obtain ⟨⟨nm, s4⟩, hal, h_⟩ := ob_some h; clear h; have h := h_; clear h_
      cases h
      have hn0 : n ≠ 0 := Nat.ne_of_beq_eq_false hn0
      obtain ⟨hblt, _, g2, _, hn2⟩ := look_spec (cellsAt_look hcells)
      obtain ⟨_, g3, hn3, _⟩ := putO_spec hput
      obtain ⟨hnm, g4, hn4, _⟩ := allocO_spec hal
      have g12 := g1.trans g2
      have hn12 : s2.nx = s.nx := by omega
      have g34 := g3.trans g4
      refine ⟨([] ++ [b]) ++ ([b] ++ T1), ([] ++ [b]) ++ ([] ++ []), g12.trans g34, fun m H W act K hg ha hf hr hK => ?_⟩
      have h1 := rdo_spec hx hp hr hxm hg.glob
      have h2 := rdo_spec hy hq hr hym hg.glob
      generalize hzx : act.eval x = zx at h1
      cases h1
      rename_i b' cap hB hm hle hC
      have haA : Agree H s ([b] ++ T1) := fun k hk => ha k (by simp at hk ⊢; rcases hk with h | h <;> simp [h])
      have ha1 : Agree H s1 [b] := Agree.after g1 hn1 haA
      have hgw : ∀ w : World, w.heap = W.heap → Good w0 P P.globals.size m H w := fun w hw => hg.of_heap hw
      obtain ⟨arr, hrun, hl⟩ := hfirst m H W _ ([b] ++ T1) _ hg haA (fun k hk => by simp [hk]) h2
      obtain ⟨b2, c, el, lo, hi', hb, hh, hlen2, _, hlc, hfr, hne, hsz⟩ := cells_obj hcells ha1 (by simp) hg
      rw [hm] at hb; cases hb
      have harr : arr.size = n * i.size := by rw [← hlen, hl.1]; simp
      have hstep : ∀ (m' : Tl) (W' : World), Stp w0 P P.globals.size s2 s4 [b] m m' H W W' → Stp w0 P P.globals.size s s4 (([] ++ [b]) ++ ([] ++ [])) m m' H W W' := fun m' W' hst => by
        simpa using Stp.after (by simpa using g12) hn12 (by simpa using g34) hg hst
      rw [hexec, hzx]
      by_cases hroom : len + n ≤ cap
      · have hmul : (len + n) * i.size ≤ cap * i.size := Nat.mul_le_mul_right _ hroom
        rw [Nat.add_mul] at hmul
        obtain ⟨W', r1, r2, r3, r4⟩ := run_storeCells_rk (P := P) (b := b') (off := len * i.size) arr.toList 0 W c hh (by simp [harr]; omega) (hl.one hone) (fun i h => hfr i (Nat.le_of_lt h))
        rw [run_append_in (W' := W') ht hu hd hi (run_lenOf hn h2 W) hroom (hrun W rfl) (fun b0 hb0 => by cases hb0; rw [addr_add, Nat.zero_add]; exact r1) (fun h => by cases h)]
        refine hK (mSet m nm b' (m.c b)) _ W' (hstep _ _ (Stp.move hput hal hg hne hm (Fresh.after hn12 hf) (m.c b) r2 r3 ?_ ?_ r4)) (.slu 0 (len + n) i.size cap (mSet_same _ _ _ _) hroom (by rw [mSet_c]; exact hC) hB)
        · have hm0 : m nm = none := hf nm (by omega) (by show nm < s4.nx; omega)
          have hlapp : LR m (cs ++ new) ((ow arr.toList c.toList (len * i.size + 0)).take (cs ++ new).length) := by
            rw [List.length_append, hcl, Nat.add_zero, show new.length = arr.toList.length from hl.1, ow_take_app _ _ _ (by simp [harr]; omega)]
            have := hlc.append hl
            rwa [hcl] at this
          have hszc : (Array.mk (ow arr.toList c.toList (len * i.size + 0))).size = c.size := by show (ow arr.toList c.toList _).length = _; rw [ow_length]; simp
          have hl2 : (cs ++ new).length = len * i.size + n * i.size := by rw [List.length_append, hcl, hlen]
          refine .cells (by rw [hszc, hl2]; omega) (fun h => by cases h) (fun j w hw => ?_) (fun j hj => hfr j (by rw [← hszc]; exact hj))
          obtain ⟨uu, hu1, hu2⟩ := (hlapp.mono (mSet_ext (b := b') (C := m.c b) hm0)).get hw
          rw [List.getElem?_take] at hu1
          split at hu1
          · exact ⟨uu, by simpa using hu1, hu2⟩
          · cases hu1
        · intro c' el' fr' e'
          cases e'
          rw [mSet_c, ← hsz]
          show (ow arr.toList c.toList _).length = _
          rw [ow_length]
          simp
      · have hoc : ∀ w : World, w.heap = W.heap → (Builtin.firstCells i.size len (.slice (some ⟨b', 0, none⟩) len cap)).run P w = .ok ⟨(c.toList.drop 0).take (len * i.size)⟩ w := by
          intro w hw
          exact run_loadCells_rk (by rw [hw]; exact hh) (by omega)
        obtain ⟨nc, rest, W', ⟨q1, q1b⟩, q2, q3, q3r, q4⟩ := run_append_new (base := some ⟨b', 0, none⟩) (sLen := len) (sCap := cap) (ty := o.type) ht hu hd hi hz hzs hb0 hb1 hsm (run_lenOf hn h2 W) (by omega) hoc hrun
        have hst1 : Stp w0 P P.globals.size s2 s3 [b] m m H W W := Stp.put hput hg hne hm (fun _ _ => rfl) (fun x hx => by cases hx)
        have hlold : LR m (cs ++ new) ((c.toList.drop 0).take (len * i.size) ++ arr.toList) := by
          have := hlc.append hl
          rw [hcl] at this
          simpa using this
        have hal2 := alloc_app (w0 := w0) (P := P) (G := P.globals.size) (s := s3) (H := updH H s2 s3 [b]) (W := W) (old := ⟨(c.toList.drop 0).take (len * i.size)⟩) (new := arr) (rest := rest) (e := e) hal hst1.good (Fresh.left g3 hst1 (Fresh.after hn12 hf)) hlold q3 q3r
        obtain ⟨k1, k2, k3⟩ := hal2
        rw [q4]
        refine hK _ _ W' (hstep _ _ (by simpa using Stp.trans g3 g4 hst1 k1)) (.slu 0 (len + n) i.size nc k2 q1 ?_ q1b)
        rw [k3]
        have : nc * i.size = len * i.size + n * i.size + (nc - (len + n)) * i.size := by
          rw [← Nat.add_mul, ← Nat.add_mul]
          congr 1
          omega
        simp [harr, q2]
        omega
    · cases h
      have hn0 := Nat.eq_of_beq_eq_true hn0
      subst hn0
      refine ⟨T1, [], g1, fun m H W act K hg ha hf hr hK => ?_⟩
      have h1 := rdo_spec hx hp hr hxm hg.glob
      have h2 := rdo_spec hy hq hr hym hg.glob
      generalize hzx : act.eval x = zx at h1
      cases h1
      rename_i b' cap hB hm hle hC
      obtain ⟨arr, hrun, hl⟩ := hfirst m H W _ T1 _ hg ha (fun k hk => hk) h2
      have : arr = #[] := by
        have := hl.1
        rw [hlen] at this
        simp at this
        exact Array.eq_empty_of_size_eq_zero (by omega)
      subst this
      rw [hexec, hzx, run_append_in (W' := W) ht hu hd hi (run_lenOf hn h2 W) hle (hrun W rfl) (fun b hb => rfl) (fun _ => rfl)]
      exact hK m _ W (Stp.looked g1 hn1 hg) (.slu 0 len i.size cap hm hle hC hB)
  · cases h
end
end Go.Proofs.Ytonckpblbdopmaa.Rk
