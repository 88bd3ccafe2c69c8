/-
  Reckoning a program in the kernel: loads, stores, new blocks. Nothing of the program.
-/
import Derived.Test.YtonckpblbdopmaaRu8
namespace Go.Proofs.Ytonckpblbdopmaa.Rk
set_option linter.unusedVariables false
open Go
set_option maxHeartbeats 1000000

section
variable {w0 : World} {P : Program} {a : Tri AV} {s s' : St} {o : Oper} {v : AV} {m : Tl} {H : Hp} {W : World}
theorem cellsAt_look {n : Nat} {cs : List AV} {ex : Bool} (h : cellsAt n s = some (cs, ex, s')) : look n s = some (.cells cs ex, s') := by
  obtain ⟨r, hr, h_⟩ := ob_some h; clear h; have h := h_; clear h_
  split at h
  · rename_i cs' ex' s'' 
    cases h
    exact hr
  · cases h
theorem cells_obj {n : Nat} {cs : List AV} {ex : Bool} {T : List Nat} (h : cellsAt n s = some (cs, ex, s')) (ha : Agree H s T) (hT : n ∈ T) {G : Nat} (hg : Good w0 P G m H W) :
    ∃ b c el lo hi, m n = some b ∧ W.heap[b]? = some (.cells c el (lo, hi)) ∧ cs.length ≤ c.size ∧ (ex = true → c.size = cs.length) ∧ LR m cs (c.toList.take cs.length) ∧ (∀ i, i ≤ c.size → ¬ (lo ≤ i ∧ i < hi)) ∧ live (H n) = true ∧ c.size = m.c n := by
  obtain ⟨b, ob, h1, h2, h3, h4, h5⟩ := look_obj (cellsAt_look h) rfl ha hT hg
  cases h3
  rename_i c el lo hi hfr hlen hval hex
  refine ⟨b, c, el, lo, hi, h1, h2, hlen, hex, ⟨by simp [hlen], fun i x u hx hu => ?_⟩, hfr, by rw [h4]; rfl, h5 c el (lo, hi) rfl⟩
  obtain ⟨w, hw, hw'⟩ := hval i x hx
  rw [List.getElem?_take] at hu
  split at hu
  · rw [Array.getElem?_toList, hw] at hu; cases hu; exact hw'
  · cases hu
theorem cellsRd_look {n : Nat} {cs : List AV} (h : cellsRd n s = some (cs, s')) : ∃ o, look n s = some (o, s') ∧ ((∃ ex, o = .cells cs ex) ∨ o = .ro cs) := by
  obtain ⟨r, hr, h⟩ := ob_some h
  split at h
  · cases h
    exact ⟨_, hr, .inl ⟨_, rfl⟩⟩
  · cases h
    exact ⟨_, hr, .inr rfl⟩
  · cases h
theorem rd_obj {n : Nat} {cs : List AV} {T : List Nat} (h : cellsRd n s = some (cs, s')) (ha : Agree H s T) (hT : n ∈ T) {G : Nat} (hg : Good w0 P G m H W) :
    ∃ b c el fr, m n = some b ∧ W.heap[b]? = some (.cells c el fr) ∧ cs.length ≤ c.size ∧ LR m cs (c.toList.take cs.length) := by
  obtain ⟨o, hlk, ⟨ex, rfl⟩ | rfl⟩ := cellsRd_look h
  · have hc : cellsAt n s = some (cs, ex, s') := by
      unfold cellsAt
      rw [hlk]
      rfl
    obtain ⟨b, c, el, lo, hi, h1, h2, h3, _, h5, _⟩ := cells_obj hc ha hT hg
    exact ⟨b, c, el, (lo, hi), h1, h2, h3, h5⟩
  · exact look_ro hlk ha hT hg
theorem LR.sub {cs : List AV} {vs : List Value} {off n k : Nat} (h : LR m cs (vs.take k)) (hk : k = cs.length) (hle : off + n ≤ cs.length) : LR m ((cs.drop off).take n) ((vs.drop off).take n) := by
  have h1 := (h.drop off).take n
  rw [List.drop_take, List.take_take] at h1
  rw [show min n (k - off) = n by omega] at h1
  exact h1
theorem OpG.load1 {t : TypeId} {x : Operand} {x' : Opd} (ho : o.op = .load t x) (ht : aggT P t = some none) (hx : cO P x = some x') {cl yl : Nat → List AV → St → Option (AV × St)} (h : evOp cl yl a s (.load1 x') = some (v, s')) : OpG w0 P a s s' o v := by
  obtain ⟨p, hp, h_⟩ := ob_some h; clear h; have h := h_; clear h_
  split at h
  · rename_i n off
    obtain ⟨⟨cs, s1⟩, hr0, h_⟩ := ob_some h; clear h; have h := h_; clear h_
    obtain ⟨hv0, rfl⟩ := pureO_some h; clear h
    obtain ⟨ob0, hlk0, _⟩ := cellsRd_look hr0
    obtain ⟨hlt, _, hseg, _, hnx⟩ := look_spec hlk0
    refine ⟨[n], [], hseg, fun m H W act K hg ha hf hr hK => ?_⟩
    obtain ⟨b, c, el, fr, hb, hh, hlen, hl⟩ := rd_obj hr0 ha (by simp) hg
    have h1 := rdo_spec hx hp hr (by simp [ho, Op.operands]) hg.glob
    generalize hz : act.eval x = z at h1
    cases h1
    rename_i b' hb'
    rw [hb] at hb'; cases hb'
    obtain ⟨u, hu, hu'⟩ := hl.get hv0
    have hu2 : c[off]? = some u := by
      rw [List.getElem?_take] at hu
      split at hu
      · rw [← Array.getElem?_toList]; exact hu
      · cases hu
    have hrun : (execOp act.eval o).run P W = .ok (.value u) W := by
      simp [execOp, ho, hz, Instr.loadAt, Instr.sureAddr, loadVar, (run_agg ht W).1, cell_of hh, hu2]
    rw [hrun]
    exact hK m u W (Stp.looked hseg hnx hg) hu'
  · cases h
theorem OpG.loadN {t : TypeId} {x : Operand} {x' : Opd} {k : Nat} (ho : o.op = .load t x) (ht : aggT P t = some (some k)) (hx : cO P x = some x') {cl yl : Nat → List AV → St → Option (AV × St)} (h : evOp cl yl a s (.loadN k x') = some (v, s')) : OpG w0 P a s s' o v := by
  obtain ⟨p, hp, h_⟩ := ob_some h; clear h; have h := h_; clear h_
  split at h
  · rename_i n off
    obtain ⟨⟨cs, s1⟩, hr0, h_⟩ := ob_some h; clear h; have h := h_; clear h_
    obtain ⟨l, hl0, h_⟩ := ob_some h; clear h; have h := h_; clear h_
    cases h
    obtain ⟨hle, rfl⟩ := sub_some hl0
    obtain ⟨ob0, hlk0, _⟩ := cellsRd_look hr0
    obtain ⟨hlt, _, hseg, _, hnx⟩ := look_spec hlk0
    refine ⟨[n], [], hseg, fun m H W act K hg ha hf hr hK => ?_⟩
    obtain ⟨b, c, el, fr, hb, hh, hlen, hl⟩ := rd_obj hr0 ha (by simp) hg
    have h1 := rdo_spec hx hp hr (by simp [ho, Op.operands]) hg.glob
    generalize hz : act.eval x = z at h1
    cases h1
    rename_i b' hb'
    rw [hb] at hb'; cases hb'
    have hrun : (execOp act.eval o).run P W = .ok (.value (.agg ⟨(c.toList.drop off).take k⟩)) W := by
      simp [execOp, ho, hz, Instr.loadAt, Instr.sureAddr, loadVar, (run_agg ht W).1, run_sz ((run_agg ht W).2 k rfl), run_loadCells_rk hh (show off + k ≤ c.size by omega)]
    rw [hrun]
    have hs := hl.sub rfl hle
    exact hK m _ W (Stp.looked hseg hnx hg) (.agg hs.1 hs.2)
  · cases h
theorem oneCell_spec {x : AV} {u : Value} (h : oneCell x = true) (hv : VR m x u) : u.oneCell' = true := by
  cases hv <;> first | rfl | (simp [oneCell] at h)
theorem LR.one {cs : List AV} {vs : List Value} (h : LR m cs vs) (h1 : cs.all oneCell = true) : ∀ u ∈ vs, u.oneCell' = true := by
  intro u hu
  obtain ⟨i, hi, rfl⟩ := List.mem_iff_getElem.1 hu
  have hi' : i < cs.length := by rw [h.1]; exact hi
  exact oneCell_spec (List.all_eq_true.1 h1 _ (List.getElem_mem hi')) (h.2 i _ _ (List.getElem?_eq_getElem hi') (List.getElem?_eq_getElem hi))
theorem LR.ow {cs : List AV} {vs : List Value} : ∀ {ds : List AV} {us : List Value} (off : Nat), LR m ds us → LR m cs vs → LR m (ow ds cs off) (Proofs.Ytonckpblbdopmaa.Rk.ow us vs off) := by
  intro ds
  induction ds generalizing cs vs with
  | nil => intro us off h hc; have := h.inv_nil; subst this; exact hc
  | cons d ds ih =>
    intro us off h hc
    obtain ⟨u, us', rfl, h1, h2⟩ := h.inv_cons
    exact ih (off + 1) h2 (hc.set off h1)
theorem ow_take {α : Type} : ∀ (vs cs : List α) (off k : Nat), off + vs.length ≤ k → (ow vs cs off).take k = ow vs (cs.take k) off
  | [], _, _, _, _ => rfl
  | v :: vs, cs, off, k, h => by
    simp only [List.length_cons] at h
    simp only [ow]
    rw [ow_take vs _ _ _ (by omega), List.take_set]
/-- The object behind a store. -/
theorem OR.stored {cs ds : List AV} {ex : Bool} {c : Array Value} {us : List Value} {el : TypeId} {lo hi off : Nat} (hlen : cs.length ≤ c.size) (hex : ex = true → c.size = cs.length) (hl : LR m cs (c.toList.take cs.length)) (hfr : ∀ i, i ≤ c.size → ¬ (lo ≤ i ∧ i < hi))
    (hd : LR m ds us) (hle : off + ds.length ≤ cs.length) : OR P m (.cells (ow ds cs off) ex) (.cells ⟨ow us c.toList off⟩ el (lo, hi)) := by
  have hsz : (Array.mk (ow us c.toList off)).size = c.size := by show (ow us c.toList off).length = _; rw [ow_length]; simp
  refine .cells (by rw [hsz, ow_length]; exact hlen) (fun h => by rw [hsz, ow_length]; exact hex h) (fun i x hx => ?_) (fun i hi => hfr i (by rw [← hsz]; exact hi))
  have h2 := LR.ow (m := m) off hd hl
  rw [← ow_take us c.toList off cs.length (by rw [← hd.1]; exact hle)] at h2
  obtain ⟨u, hu, hu'⟩ := h2.get hx
  rw [List.getElem?_take] at hu
  split at hu
  · exact ⟨u, by simpa using hu, hu'⟩
  · cases hu
theorem storeA_spec {n off : Nat} {ds : List AV} (h : storeA n off ds s = some s') : ∃ T, Seg s s' T [n] ∧ n ∈ T ∧ s'.nx = s.nx ∧ ∀ (m : Tl) (H : Hp) (W : World) (G : Nat) (us : List Value), Good w0 P G m H W → Agree H s T → LR m ds us →
    ∃ b W', m n = some b ∧ (storeCells ⟨b, off, none⟩ us).run P W = .ok () W' ∧ Stp w0 P G s s' [n] m m H W W' := by
  obtain ⟨⟨cs, ex, s1⟩, hr0, h_⟩ := ob_some h; clear h; have h := h_; clear h_
  obtain ⟨h1, h_⟩ := rec_some h; clear h; have h := h_; clear h_
  have hle := Nat.le_of_ble_eq_true h1
  obtain ⟨h2, h_⟩ := rec_some h; clear h; have h := h_; clear h_
  obtain ⟨hlt, _, hseg, hH, hnx⟩ := look_spec (cellsAt_look hr0)
  obtain ⟨hlt2, hseg2, hnx2, _⟩ := putO_spec h
  refine ⟨[n, n], hseg.trans hseg2, by simp, by omega, fun m H W G us hg ha hd => ?_⟩
  obtain ⟨b, c, el, lo, hi, hb, hh, hlen, hex, hl, hfr, hne, hsz⟩ := cells_obj hr0 ha (by simp) hg
  obtain ⟨W', r1, r2, r3, r4⟩ := run_storeCells_rk (P := P) (b := b) (off := off) us 0 W c hh (by rw [← hd.1]; omega) (hd.one h2) (fun i h => hfr i (Nat.le_of_lt h))
  refine ⟨b, W', hb, r1, ?_⟩
  have hs1 := Stp.looked hseg hnx hg
  have e : updH H s s1 [] = H := by
    funext k
    unfold updH
    rw [if_neg]
    rintro (h | h)
    · cases h
    · omega
  have hs2 := Stp.put (s := s1) h hg hne hb (W' := W') r3 (fun x hx => by
    cases hx
    exact ⟨_, r2, OR.stored hlen hex hl hfr hd hle, fun c' el' fr' e => by cases e; rw [← hsz]; show (ow us c.toList _).length = _; rw [ow_length]; simp⟩) r4
  exact Stp.trans (s1 := s1) (T1 := [n]) (T2 := [n]) (W1 := []) (W2 := [n]) hseg hseg2 hs1 (by rw [e]; exact hs2)
theorem OpG.store {t : TypeId} {x y : Operand} {x' y' : Opd} {k : Nat} (ho : o.op = .store t x y) (ht : szT P t = some k) (hx : cO P x = some x') (hy : cO P y = some y') {cl yl : Nat → List AV → St → Option (AV × St)} (h : evOp cl yl a s (.store k x' y') = some (v, s')) : OpG w0 P a s s' o v := by
  obtain ⟨p, hp, h_⟩ := ob_some h; clear h; have h := h_; clear h_
  obtain ⟨q, hq, h_⟩ := ob_some h; clear h; have h := h_; clear h_
  split at h
  · rename_i n off
    obtain ⟨hk, h_⟩ := rec_some h; clear h; have h := h_; clear h_
    have hk := Nat.eq_of_beq_eq_true hk
    obtain ⟨s1, hs, h_⟩ := ob_some h; clear h; have h := h_; clear h_
    cases h
    obtain ⟨T, hseg, hT, hnx, hst⟩ := storeA_spec (w0 := w0) (P := P) hs
    refine ⟨T, [n], hseg, fun m H W act K hg ha hf hr hK => ?_⟩
    have h1 := rdo_spec hx hp hr (by simp [ho, Op.operands]) hg.glob
    have h2 := rdo_spec hy hq hr (by simp [ho, Op.operands]) hg.glob
    generalize hz : act.eval x = z at h1
    cases h1
    rename_i b hb
    obtain ⟨b', W', hb', hrun, hstp⟩ := hst m H W _ _ hg ha h2.cells
    rw [hb] at hb'; cases hb'
    have hlen : (act.eval y).cells.size = k := by
      have := h2.cells.1
      rw [hk] at this
      simpa using this.symm
    have hrun : (execOp act.eval o).run P W = .ok .skip W' := by
      simp [execOp, ho, hz, Instr.storeAt, Instr.sureAddr, storeVar, run_sz ht, hlen, hrun]
    rw [hrun]
    exact hK m _ W' hstp (.tup rfl (fun i a v ha _ => by simp at ha))
  · cases h
/-- A new row of cells. -/
theorem alloc_row {cs : List AV} {n : Nat} (h : allocO (.cells cs true) s = some (n, s')) {el : TypeId} {c : Array Value} {G : Nat} (hg : Good w0 P G m H W) (hf : Fresh m s s') (hl : LR m cs c.toList) :
    (newRow el c).run P W = .ok ⟨W.heap.size, 0, none⟩ { W with heap := W.heap.push (.cells c el) } ∧ Stp w0 P G s s' [] m (mSet m n W.heap.size c.size) H W { W with heap := W.heap.push (.cells c el) } ∧ mSet m n W.heap.size c.size n = some W.heap.size := by
  obtain ⟨hn, hseg, hnx, _⟩ := allocO_spec h
  have hm0 : m n = none := hf n (by omega) (by omega)
  refine ⟨by simp [newRow], ?_, mSet_same _ _ _ _⟩
  refine Stp.alloc h hg hf (ob := .cells c el (0, 0)) c.size (by simp) (fun k hk => by simp [Array.getElem?_push, Nat.ne_of_lt hk]) ?_ (fun c' el' fr' e => by cases e; exact (mSet_c _ _ _ _).symm)
  refine .cells (by rw [hl.1]; simp) (fun _ => by rw [hl.1]; simp) (fun i x hx => ?_) (fun i _ h => by omega)
  obtain ⟨u, hu, hu'⟩ := (hl.mono (mSet_ext (b := W.heap.size) (C := c.size) hm0)).get hx
  exact ⟨u, by rw [← Array.getElem?_toList]; exact hu, hu'⟩
theorem zCells_spec {t : TypeId} {z : List AV} (h : zCells P t = some z) (m : Tl) : ∃ u, zeroT P t = some u ∧ LR m z u.cells.toList := by
  unfold zCells at h
  cases hz : zeroT P t with
  | none => rw [hz] at h; cases h
  | some u => rw [hz] at h; exact ⟨u, rfl, cSs_spec m h⟩
theorem OpG.alloc {t : TypeId} {z : List AV} (ho : o.op = .alloc t) (ht : zCells P t = some z) {cl yl : Nat → List AV → St → Option (AV × St)} (h : evOp cl yl a s (.alloc z) = some (v, s')) : OpG w0 P a s s' o v := by
  obtain ⟨⟨n, s1⟩, hr0, h_⟩ := ob_some h; clear h; have h := h_; clear h_
  cases h
  obtain ⟨hn, hseg, hnx, _⟩ := allocO_spec hr0
  refine ⟨[], [], hseg, fun m H W act K hg ha hf hr hK => ?_⟩
  obtain ⟨u, hu, hl⟩ := zCells_spec ht m
  obtain ⟨h1, h2, h3⟩ := alloc_row hr0 (el := t) hg hf hl
  have hrun : (execOp act.eval o).run P W = .ok (.value (.pointer (some ⟨W.heap.size, 0, none⟩))) { W with heap := W.heap.push (.cells u.cells t) } := by
    simp only [execOp, ho, Instr.alloc, Sem.run_bind, run_zero hu, Result.andThen_ok, newVar, h1, Sem.run_pure]
  rw [hrun]
  exact hK _ _ _ h2 (.ptr 0 h3)
theorem OpG.box {t : TypeId} {x : Operand} {x' : Opd} (ho : o.op = .box t x) (hx : cO P x = some x') {cl yl : Nat → List AV → St → Option (AV × St)} (h : evOp cl yl a s (.box x') = some (v, s')) : OpG w0 P a s s' o v := by
  obtain ⟨p, hp, h_⟩ := ob_some h; clear h; have h := h_; clear h_
  obtain ⟨⟨n, s1⟩, hr0, h_⟩ := ob_some h; clear h; have h := h_; clear h_
  cases h
  obtain ⟨hn, hseg, hnx, _⟩ := allocO_spec hr0
  refine ⟨[], [], hseg, fun m H W act K hg ha hf hr hK => ?_⟩
  have h0 := rdo_spec hx hp hr (by simp [ho, Op.operands]) hg.glob
  obtain ⟨h1, h2, h3⟩ := alloc_row hr0 (el := t) hg hf h0.cells
  have hrun : (execOp act.eval o).run P W = .ok (.value (.pointer (some ⟨W.heap.size, 0, none⟩))) { W with heap := W.heap.push (.cells (act.eval x).cells t) } := by
    simp only [execOp, ho, Instr.box, Sem.run_bind, newVar, h1, Result.andThen_ok, Sem.run_pure]
  rw [hrun]
  exact hK _ _ _ h2 (.ptr 0 h3)
/-! ### Literals -/
theorem zip_ow : ∀ (l : List Value) (k off : Nat) (cells : Array Value), (l.zipIdx k).foldl (fun cs (x : Value × Nat) => cs.setIfInBounds (off + x.2) x.1) cells = ⟨ow l cells.toList (off + k)⟩
  | [], _, _, _ => rfl
  | v :: l, k, off, cells => by
    rw [List.zipIdx_cons, List.foldl_cons, zip_ow l (k + 1) off]
    simp [ow, Nat.add_assoc]
theorem fill_spec {act : Act} {xs : List Operand} {place : Nat → Option (Nat × Nat)} (hr : RdOk m a act xs) (hg : ∀ g, g < P.globals.size → m g = some g) : ∀ {ps : List (Nat × Operand)} {l : List (Nat × Nat × Opd)} {cs cs' : List AV} {cells : Array Value},
    cParts P place ps = some l → fillA a l cs = some cs' → LR m cs cells.toList → (∀ p ∈ ps, p.2 ∈ xs) → ∃ c', Instr.fill place cells (ps.map fun p => (p.1, act.eval p.2)) = some c' ∧ LR m cs' c'.toList
  | [], l, cs, cs', cells, h, hf, hl, _ => by cases h; cases hf; exact ⟨cells, rfl, hl⟩
  | (i, x) :: ps, l, cs, cs', cells, h, hf, hl, hm => by
    unfold cParts at h
    split at h
    · rename_i p o l' h1 h2 h3
      cases h
      obtain ⟨u, hu, hf⟩ := ob_some hf
      obtain ⟨e1, hf⟩ := rec_some hf
      obtain ⟨e2, hf⟩ := rec_some hf
      have e1 := Nat.eq_of_beq_eq_true e1
      have e2 := Nat.le_of_ble_eq_true e2
      simp only at e1 e2
      have hv := rdo_spec h2 hu hr (hm (i, x) (by simp)) hg
      have hlen : (act.eval x).cells.size = p.2 := by
        have := hv.cells.1
        rw [e1] at this
        simpa using this.symm
      have hcl : cells.size = cs.length := by rw [hl.1]; simp
      obtain ⟨c', hc', hl'⟩ := fill_spec (place := place) hr hg (cells := ⟨ow (act.eval x).cells.toList cells.toList p.1⟩) h3 hf (LR.ow p.1 hv.cells hl) (fun q hq => hm q (List.mem_cons_of_mem _ hq))
      refine ⟨c', ?_, hl'⟩
      simp only [List.map_cons, Instr.fill, h1]
      rw [if_neg]
      · have hz := zip_ow (act.eval x).cells.toList 0 p.1 cells
        have he : (act.eval x).cells.zipIdx.foldl (fun cs (x : Value × Nat) => match x with | (c, j) => cs.setIfInBounds (p.1 + j) c) cells = ⟨ow (act.eval x).cells.toList cells.toList p.1⟩ := by
          rw [← Array.foldl_toList, Array.toList_zipIdx]
          exact hz
        rw [he]
        exact hc'
      · rw [hlen]
        simp
        omega
    · cases h
theorem run_places {w : World} : ∀ {fs : List Field} {pl : List (Nat × Nat)}, places P fs = some pl → (fs.mapM (m := Sem) fun f => do pure (f.offset, ← sizeOf f.type)).run P w = .ok pl w
  | [], pl, h => by cases h; rfl
  | f :: fs, pl, h => by
    unfold places at h
    split at h
    · rename_i n l h1 h2
      cases h
      rw [List.mapM_cons]
      simp only [Sem.run_bind, run_sz h1, Result.andThen_ok, Sem.run_pure, run_places h2]
    · cases h
theorem OpG.buildS {t : TypeId} {fs : Array Field} {ps : Array (Nat × Operand)} {z : List AV} {pl : List (Nat × Nat)} {l : List (Nat × Nat × Opd)} (ho : o.op = .build t ps) (hz : zCells P t = some z) (ht : P.underlying t = some (.struct fs)) (hp : places P fs.toList = some pl)
    (hl : cParts P (pl[·]?) ps.toList = some l) {cl yl : Nat → List AV → St → Option (AV × St)} (h : evOp cl yl a s (.build z l) = some (v, s')) : OpG w0 P a s s' o v := by
  obtain ⟨hv0, rfl⟩ := pureO_some h; clear h
  obtain ⟨cs, hcs, hv0⟩ := ob_some hv0
  cases hv0
  refine .pure fun m W act hg hr => ?_
  obtain ⟨u, hu, hlz⟩ := zCells_spec hz m
  obtain ⟨c', hc', hl'⟩ := fill_spec hr hg hl hcs hlz (fun q hq => by simp only [ho, Op.operands, List.mem_map]; exact ⟨q, hq, rfl⟩)
  refine ⟨.agg c', ?_, .agg (vs := c'.toList) hl'.1 hl'.2⟩
  have hpl : (fs.mapM (m := Sem) fun f => do Pure.pure (f.offset, ← sizeOf f.type)).run P W = .ok pl.toArray W := by
    rw [Array.mapM_eq_mapM_toList]
    simp only [Sem.run_map, run_places hp, Result.andThen_ok]
  have hparts : (ps.map fun (x : Nat × Operand) => match x with | (i, x) => (i, act.eval x)).toList = ps.toList.map fun p => (p.1, act.eval p.2) := by simp
  simp only [execOp, ho, Instr.build, Sem.run_bind, run_zero hu, Result.andThen_ok, run_und ht, hpl, hparts]
  have : (fun (x : Nat) => pl.toArray[x]?) = (fun (x : Nat) => pl[x]?) := by funext x; simp
  rw [this, hc']
  rfl
theorem OpG.buildA {t e : TypeId} {len n : Nat} {ps : Array (Nat × Operand)} {z : List AV} {l : List (Nat × Nat × Opd)} (ho : o.op = .build t ps) (hz : zCells P t = some z) (ht : P.underlying t = some (.array len e)) (hn : szT P e = some n)
    (hl : cParts P (fun i => some (i * n, n)) ps.toList = some l) {cl yl : Nat → List AV → St → Option (AV × St)} (h : evOp cl yl a s (.build z l) = some (v, s')) : OpG w0 P a s s' o v := by
  obtain ⟨hv0, rfl⟩ := pureO_some h; clear h
  obtain ⟨cs, hcs, hv0⟩ := ob_some hv0
  cases hv0
  refine .pure fun m W act hg hr => ?_
  obtain ⟨u, hu, hlz⟩ := zCells_spec hz m
  obtain ⟨c', hc', hl'⟩ := fill_spec hr hg hl hcs hlz (fun q hq => by simp only [ho, Op.operands, List.mem_map]; exact ⟨q, hq, rfl⟩)
  refine ⟨.agg c', ?_, .agg (vs := c'.toList) hl'.1 hl'.2⟩
  have hparts : (ps.map fun (x : Nat × Operand) => match x with | (i, x) => (i, act.eval x)).toList = ps.toList.map fun p => (p.1, act.eval p.2) := by simp
  simp only [execOp, ho, Instr.build, Sem.run_bind, run_zero hu, Result.andThen_ok, run_und ht, run_sz hn, hparts, hc', Sem.run_pure]
theorem flat_get {α : Type} (z : List α) (n : Nat) (hz : z.length = n) (h0 : 0 < n) : ∀ (len k : Nat), k < len * n → (List.replicate len z).flatten[k]? = z[k % n]?
  | 0, k, h => by omega
  | len + 1, k, h => by
    rw [List.replicate_succ, List.flatten_cons]
    by_cases hk : k < n
    · rw [List.getElem?_append_left (by omega), Nat.mod_eq_of_lt hk]
    · rw [List.getElem?_append_right (by omega), flat_get z n hz h0 len (k - z.length) (by rw [Nat.succ_mul] at h; omega)]
      rw [hz]
      congr 1
      conv => rhs; rw [show k = (k - n) + n by omega, Nat.add_mod_right]
theorem flat_len {α : Type} (z : List α) (len : Nat) : (List.replicate len z).flatten.length = len * z.length := by
  induction len with
  | zero => simp
  | succ len ih => simp [List.replicate_succ, ih, Nat.succ_mul]; omega
theorem LR.zeros {z : List AV} {zs : Array Value} {len : Nat} (h : LR m z zs.toList) (h0 : 0 < z.length) : LR m (List.replicate len z).flatten (((Array.range (len * z.length)).map (zs[· % zs.size]!)).toList) := by
  have hsz : zs.size = z.length := by rw [h.1]; simp
  refine ⟨by simp, fun i x u hx hu => ?_⟩
  have hi : i < len * z.length := by
    have := (List.getElem?_eq_some_iff.1 hx).1
    rw [flat_len] at this; exact this
  rw [flat_get z z.length rfl h0 len i hi] at hx
  rw [Array.getElem?_toList] at hu
  simp only [Array.getElem?_map, Array.getElem?_range] at hu
  rw [if_pos hi] at hu
  simp only [Option.map_some, Option.some.injEq] at hu
  have hm : i % z.length < zs.size := by rw [hsz]; exact Nat.mod_lt _ h0
  rw [hsz] at hu
  rw [getElem!_pos zs _ hm] at hu
  refine h.2 (i % z.length) x u hx ?_
  rw [Array.getElem?_toList, Array.getElem?_eq_getElem hm, hu]
theorem OpG.buildSl {t e : TypeId} {len n : Nat} {ps : Array (Nat × Operand)} {z : List AV} {l : List (Nat × Nat × Opd)} (ho : o.op = .buildSlice t len ps) (ht : P.underlying t = some (.slice e)) (hn : szT P e = some n) (h0 : len * n ≠ 0) (hbig : len * n ≤ 16777216) (hz : zCells P e = some z) (hzl : z.length = n)
    (hl : cParts P (fun i => some (i * n, n)) ps.toList = some l) {cl yl : Nat → List AV → St → Option (AV × St)} (h : evOp cl yl a s (.buildSl (List.replicate len z).flatten len l) = some (v, s')) : OpG w0 P a s s' o v := by
  obtain ⟨cs, hcs, h_⟩ := ob_some h; clear h; have h := h_; clear h_
  obtain ⟨⟨nm, s1⟩, hr0, h_⟩ := ob_some h; clear h; have h := h_; clear h_
  cases h
  obtain ⟨hnm, hseg, hnx, _⟩ := allocO_spec hr0
  refine ⟨[], [], hseg, fun m H W act K hg ha hf hr hK => ?_⟩
  obtain ⟨u, hu, hlz⟩ := zCells_spec hz m
  have hz0 : 0 < z.length := by rw [hzl]; exact Nat.pos_of_ne_zero (fun e => h0 (by rw [e]; simp))
  have hzz := LR.zeros (len := len) hlz hz0
  rw [hzl] at hzz
  obtain ⟨c', hc', hl'⟩ := fill_spec hr hg.glob hl hcs hzz (fun q hq => by simp only [ho, Op.operands, List.mem_map]; exact ⟨q, hq, rfl⟩)
  obtain ⟨h1, h2, h3⟩ := alloc_row hr0 (el := e) hg hf hl'
  have hparts : (ps.map fun (x : Nat × Operand) => match x with | (i, x) => (i, act.eval x)).toList = ps.toList.map fun p => (p.1, act.eval p.2) := by simp
  have hrun : (execOp act.eval o).run P W = .ok (.value (.slice (some ⟨W.heap.size, 0, none⟩) len len)) { W with heap := W.heap.push (.cells c' e) } := by
    simp only [execOp, ho, Instr.buildSlice, Sem.run_bind, run_und ht, run_sz hn, Result.andThen_ok]
    rw [if_neg (by omega)]
    simp only [h0, if_false, Sem.run_bind, run_zero hu, Result.andThen_ok, Sem.run_pure, hparts, hc', h1]
  rw [hrun]
  exact hK _ _ _ h2 (.sl 0 len len h3 (Nat.le_refl _))
theorem OpG.buildSl0 {t e : TypeId} {n : Nat} {ps : Array (Nat × Operand)} (ho : o.op = .buildSlice t 0 ps) (ht : P.underlying t = some (.slice e)) (hn : szT P e = some n) (hps : ps.toList = [])
    {cl yl : Nat → List AV → St → Option (AV × St)} (h : evOp cl yl a s (.buildSl [] 0 []) = some (v, s')) : OpG w0 P a s s' o v := by
  have h : ob (allocO (.cells [] true) s) (fun r => some (.sl r.1 0 0 0, r.2)) = some (v, s') := h
  obtain ⟨⟨nm, s1⟩, hr0, h_⟩ := ob_some h; clear h; have h := h_; clear h_
  cases h
  obtain ⟨hnm, hseg, hnx, _⟩ := allocO_spec hr0
  refine ⟨[], [], hseg, fun m H W act K hg ha hf hr hK => ?_⟩
  have hps' : ps = #[] := by apply Array.ext'; simpa using hps
  obtain ⟨h1, h2, h3⟩ := alloc_row hr0 (el := e) (c := #[]) hg hf (LR.nil m)
  have hrun : (execOp act.eval o).run P W = .ok (.value (.slice (some ⟨W.heap.size, 0, none⟩) 0 0)) { W with heap := W.heap.push (.cells #[] e) } := by
    simp only [execOp, ho, Instr.buildSlice, Sem.run_bind, run_und ht, run_sz hn, Result.andThen_ok, hps']
    rw [if_neg (by omega)]
    simp only [Nat.zero_mul, if_true, Sem.run_bind, Result.andThen_ok, Sem.run_pure]
    have : Instr.fill (fun i => some (i * n, n)) ((Array.range 0).map ((#[] : Array Value)[· % (#[] : Array Value).size]!)) ((#[] : Array (Nat × Operand)).map fun (x : Nat × Operand) => match x with | (i, x) => (i, act.eval x)).toList = some #[] := by simp [Instr.fill]
    rw [this]
    simp only [Sem.run_bind, h1, Result.andThen_ok, Sem.run_pure]
  rw [hrun]
  exact hK _ _ _ h2 (.sl 0 0 0 h3 (Nat.le_refl _))
end
end Go.Proofs.Ytonckpblbdopmaa.Rk
