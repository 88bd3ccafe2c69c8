/-
  Reckoning a program in the kernel: maps of numbers; all operations. Nothing of the program.
-/
import Derived.Test.YtonckpblbdopmaaRud
import Derived.Laws.RangeString
namespace Go.Proofs.Ytonckpblbdopmaa.Rk
set_option linter.unusedVariables false
open Go
set_option maxHeartbeats 1000000
set_option linter.unusedSimpArgs false

section
variable {w0 : World} {P : Program} {G : Nat} {a : Tri AV} {s s' : St} {o : Oper} {v : AV} {m : Tl} {H : Hp} {W : World}
theorem OpG.mkmap {t : TypeId} (ho : o.op = .makeMap t none) {cl yl : Nat → List AV → St → Option (AV × St)} (h : evOp cl yl a s .mkmap = some (v, s')) : OpG w0 P a s s' o v := by
  obtain ⟨⟨n, s1⟩, hal, h_⟩ := ob_some h; clear h; have h := h_; clear h_
  cases h
  obtain ⟨hn, hseg, hnx, _⟩ := allocO_spec hal
  refine ⟨[], [], hseg, fun m H W act K hg ha hf hr hK => ?_⟩
  have hrun : (execOp act.eval o).run P W = .ok (.value (.map (some W.heap.size))) { W with heap := W.heap.push (.map #[] 0) } := by
    simp [execOp, ho, Instr.makeMap]
  rw [hrun]
  refine hK (mSet m n W.heap.size 0) _ _ (Stp.alloc hal hg hf (ob := .map #[] 0) 0 (by simp) (fun k hk => by simp [Array.getElem?_push, Nat.ne_of_lt hk]) (.mapo rfl (fun i e x he hx => by simp at he)) (fun c el fr q => by cases q)) (.map (mSet_same _ _ _ _))
theorem OpG.rng {t : TypeId} {x : Operand} {x' : Opd} (ho : o.op = .range t x) (ht : P.underlying t = some .string) (hx : cO P x = some x') {cl yl : Nat → List AV → St → Option (AV × St)} (h : evOp cl yl a s (.rng x') = some (v, s')) : OpG w0 P a s s' o v := by
  obtain ⟨p, hp, h_⟩ := ob_some h; clear h; have h := h_; clear h_
  split at h
  case h_2 => cases h
  rename_i l
  obtain ⟨⟨n, s1⟩, hal, h_⟩ := ob_some h; clear h; have h := h_; clear h_
  cases h
  obtain ⟨hn, hseg, hnx, _⟩ := allocO_spec hal
  refine ⟨[], [], hseg, fun m H W act K hg ha hf hr hK => ?_⟩
  have h1 := rdo_spec hx hp hr (by simp [ho, Op.operands]) hg.glob
  generalize hzx : act.eval x = zx at h1
  cases h1
  have hrun : (execOp act.eval o).run P W = .ok (.value (.pointer (some ⟨W.heap.size, 0, none⟩))) { W with heap := W.heap.push (.stringIter ⟨⟨l⟩⟩ 0) } := by
    simp [execOp, ho, hzx, Instr.range, run_und ht]
  rw [hrun]
  exact hK (mSet m n W.heap.size 0) _ _ (Stp.alloc hal hg hf (ob := .stringIter ⟨⟨l⟩⟩ 0) 0 (by simp) (fun k hk => by simp [Array.getElem?_push, Nat.ne_of_lt hk]) .siter (fun c el fr q => by cases q)) (.ptr 0 (mSet_same _ _ _ _))
theorem run_getObj_iter {b pos : Nat} {s : ByteArray} (h : W.heap[b]? = some (.stringIter s pos)) : (getObj b).run P W = .ok (.stringIter s pos) W := by
  simp [getObj, Sem.run, h]
theorem run_setObj_iter {b pos : Nat} {s : ByteArray} (o' : Obj) (h : W.heap[b]? = some (.stringIter s pos)) : (setObj b o').run P W = .ok () { W with heap := W.heap.setIfInBounds b o' } := by
  simp [setObj, Sem.run, h]
theorem OpG.nxt {x : Operand} {x' : Opd} (ho : o.op = .next x true) (hx : cO P x = some x') {cl yl : Nat → List AV → St → Option (AV × St)} (h : evOp cl yl a s (.nxt x') = some (v, s')) : OpG w0 P a s s' o v := by
  obtain ⟨p, hp, h_⟩ := ob_some h; clear h; have h := h_; clear h_
  split at h
  case h_2 => cases h
  rename_i n
  obtain ⟨⟨ob0, s1⟩, hlk, h_⟩ := ob_some h; clear h; have h := h_; clear h_
  split at h
  case h_2 => cases h
  rename_i l pos s1' heq
  cases heq
  obtain ⟨c?, hc?, h_⟩ := ob_some h; clear h; have h := h_; clear h_
  cases hc?
  obtain ⟨hlt, hH, g1, hH1, hn1⟩ := look_spec hlk
  split at h
  · rename_i c hc
    rw [fN_eq] at h
    obtain ⟨hasc, h_⟩ := rec_some h; clear h; have h := h_; clear h_
    have hasc := Nat.le_of_ble_eq_true hasc
    rw [fN_eq] at h
    obtain ⟨s2, hput, h_⟩ := ob_some h; clear h; have h := h_; clear h_
    cases h
    obtain ⟨_, g2, hn2, _⟩ := putO_spec hput
    refine ⟨[n] ++ [n], [n] ++ [], g1.trans g2, fun m H W act K hg ha hf hr hK => ?_⟩
    have h1 := rdo_spec hx hp hr (by simp [ho, Op.operands]) hg.glob
    generalize hzx : act.eval x = zx at h1
    cases h1
    rename_i b hm
    obtain ⟨b', ob, hb, hh, hor, hHn, hsz⟩ := look_obj hlk rfl ha (by simp) hg
    rw [hm] at hb; cases hb
    cases hor
    obtain ⟨hpos, hcE⟩ := List.getElem?_eq_some_iff.1 hc
    have hdec : Utf8.decode ⟨⟨l⟩⟩ pos = (c.toNat, 1) := by
      have := decode_ascii ⟨⟨l⟩⟩ pos hpos (by show (l[pos]'hpos).toNat < 128; rw [hcE]; omega)
      rw [this]
      show ((l[pos]'hpos).toNat, 1) = _
      rw [hcE]
    have hrun : (execOp act.eval o).run P W = .ok (.value (.tuple #[.bool true, .int .i64 pos, .int .i32 c.toNat])) { W with heap := W.heap.setIfInBounds b (.stringIter ⟨⟨l⟩⟩ (pos + 1)) } := by
      have hps : pos < (ByteArray.mk ⟨l⟩).size := hpos
      have hblt : b < W.heap.size := (Array.getElem?_eq_some_iff.1 hh).1
      simp only [execOp, ho, hzx, Instr.next, Sem.run_bind, run_getObj_iter hh, Result.andThen_ok, if_pos hps, hdec, run_setObj_iter _ hh, Sem.run_pure, Sem.run_map, goInt]
    rw [hrun]
    have hblt : b < W.heap.size := (Array.getElem?_eq_some_iff.1 hh).1
    refine hK m _ _ (by
      have hst := Stp.put (W' := { W with heap := W.heap.setIfInBounds b (.stringIter ⟨⟨l⟩⟩ (pos + 1)) }) hput hg (by rw [hHn]; rfl) hm (fun k hk => by simp [Array.getElem?_setIfInBounds, Ne.symm hk]) (fun x hx => by cases hx; exact ⟨_, by simp [Array.getElem?_setIfInBounds, hblt], .siter, fun c el fr q => by cases q⟩)
      simpa using Stp.after g1 hn1 g2 hg hst) (.tup rfl (fun i a v h1 h2 => (LR.cons (.bool _) (LR.cons (.int _ _) (LR.cons (.int _ _) (LR.nil m)))).2 i a v h1 h2))
  · rename_i hc
    cases h
    refine ⟨[n], [], g1, fun m H W act K hg ha hf hr hK => ?_⟩
    have h1 := rdo_spec hx hp hr (by simp [ho, Op.operands]) hg.glob
    generalize hzx : act.eval x = zx at h1
    cases h1
    rename_i b hm
    obtain ⟨b', ob, hb, hh, hor, hHn, hsz⟩ := look_obj hlk rfl ha (by simp) hg
    rw [hm] at hb; cases hb
    cases hor
    have hpos : ¬ pos < (ByteArray.mk ⟨l⟩).size := by
      show ¬ pos < l.length
      have := List.getElem?_eq_none_iff.1 hc
      omega
    have hrun : (execOp act.eval o).run P W = .ok (.value (.tuple #[.bool false])) W := by
      simp only [execOp, ho, hzx, Instr.next, Sem.run_bind, run_getObj_iter hh, Result.andThen_ok, if_neg hpos, Sem.run_pure, Sem.run_map]
    rw [hrun]
    exact hK m _ _ (Stp.looked g1 hn1 hg) (.tup rfl (fun i a v h1 h2 => (LR.cons (.bool _) (LR.nil m)).2 i a v h1 h2))
theorem isI64_spec {t : TypeId} (h : isI64 P t = true) : P.underlying t = some (.int .i64) := by
  unfold isI64 at h
  split at h
  · assumption
  · cases h
/-- What is found, in both. -/
theorem find_spec {k : Int} : ∀ {es : List (AV × AV)} {en : List MapEntry} {r : Option AV} (i : Nat), findA k es = some r → es.length = en.length →
    (∀ (j : Nat) (e : AV × AV) (x : MapEntry), es[j]? = some e → en[j]? = some x → VR m e.1 x.key ∧ VR m e.2 x.val) →
    (r = none ∧ Instr.findNow (.int .i64) (.int .i64 k) en i = some none ∧ setA k v es = some (es ++ [(.int .i64 k, v)])) ∨
    (∃ (j : Nat) (x : MapEntry) (u : AV), r = some u ∧ en[j]? = some x ∧ x.key = .int .i64 k ∧ VR m u x.val ∧ Instr.findNow (.int .i64) (.int .i64 k) en i = some (some (i + j, x.val)) ∧ ∃ es', setA k v es = some es' ∧ es'.length = es.length ∧
      ∀ (q : Nat), es'[q]? = if q = j then (es[q]?).map (fun e => (e.1, v)) else es[q]?)
  | [], [], r, i, h, _, _ => by cases h; exact .inl ⟨rfl, rfl, rfl⟩
  | [], _ :: _, r, i, _, hl, _ => by simp at hl
  | _ :: _, [], r, i, _, hl, _ => by simp at hl
  | e :: es, x :: en, r, i, h, hl, hr => by
    have h' : (match (generalizing := false) e.1 with
      | .int .i64 j => Bool.rec (findA k es) (some (some e.2)) (beqI k j)
      | _ => none) = some r := h
    have hset : setA k v (e :: es) = (match (generalizing := false) e.1 with
      | .int .i64 j => Bool.rec (ob (setA k v es) fun es => some (e :: es)) (some ((e.1, v) :: es)) (beqI k j)
      | _ => none) := rfl
    obtain ⟨hk, hv⟩ := hr 0 e x rfl rfl
    split at h'
    · rename_i kk q hq
      rw [hq] at hk hset
      generalize hxk : x.key = xk at hk
      cases hk
      rcases rec_two h' with ⟨h1, h2⟩ | ⟨h1, h2⟩
      · have hne : ¬ k = q := by rw [beqI_eq, decide_eq_false_iff_not] at h1; exact h1
        have hbeq : (k == q) = false := by simpa using hne
        simp only [h1] at hset
        have hfn : Instr.findNow (.int .i64) (.int .i64 k) (x :: en) i = Instr.findNow (.int .i64) (.int .i64 k) en (i + 1) := by
          simp [Instr.findNow, hxk, Instr.sameNow, hbeq]
        rcases find_spec (i + 1) h2 (by simpa using hl) (fun j e' x' he' hx' => hr (j + 1) e' x' (by simpa using he') (by simpa using hx')) with ⟨a1, a2, a3⟩ | ⟨j, y, u, a1, a2, a3, a4, a5, es', a6, a7, a8⟩
        · refine .inl ⟨a1, by rw [hfn]; exact a2, ?_⟩
          rw [hset, a3]
          rfl
        · refine .inr ⟨j + 1, y, u, a1, by simpa using a2, a3, a4, by rw [hfn, a5]; congr 3; omega, e :: es', ?_, by simp [a7], fun q' => ?_⟩
          · rw [hset, a6]; rfl
          · cases q' with
            | zero => simp
            | succ q' => simp [a8]
      · have he : k = q := by rw [beqI_eq, decide_eq_true_iff] at h1; exact h1
        subst he
        simp only [h1] at hset
        cases h2
        refine .inr ⟨0, x, e.2, rfl, rfl, hxk, hv, ?_, (e.1, v) :: es, ?_, by simp, fun q' => ?_⟩
        · simp [Instr.findNow, hxk, Instr.sameNow]
        · rw [hset]
          congr 2
          rw [hq]
        · cases q' with
          | zero => simp
          | succ q' => simp
    · cases h'
theorem run_checkKey_int {t : TypeId} (ht : P.underlying t = some (.int .i64)) (b : Bool) (k : Int) (w : World) : (Instr.checkKey b 10000 t (.int .i64 k)).run P w = .ok () w := by
  have : ∀ d, (Instr.checkKey b (d + 1) t (.int .i64 k)).run P w = .ok () w := fun d => by simp [Instr.checkKey, run_und ht]
  exact this 9999
theorem run_getObj_map {b : Nat} {en : Array MapEntry} {clock : Nat} (h : W.heap[b]? = some (.map en clock)) : (getObj b).run P W = .ok (.map en clock) W := by
  simp [getObj, Sem.run, h]
theorem mapo_obj {n : Nat} {es : List (AV × AV)} {T : List Nat} (h : look n s = some (.mapo es, s')) (ha : Agree H s T) (hT : n ∈ T) (hg : Good w0 P G m H W) :
    ∃ b en clock, m n = some b ∧ W.heap[b]? = some (.map en clock) ∧ es.length = en.size ∧ (∀ (i : Nat) (e : AV × AV) (x : MapEntry), es[i]? = some e → en[i]? = some x → VR m e.1 x.key ∧ VR m e.2 x.val) ∧ live (H n) = true := by
  obtain ⟨b, ob, h1, h2, h3, h4, _⟩ := look_obj h rfl ha hT hg
  cases h3 with
  | @mapo _ en clock hlen hh => exact ⟨b, en, clock, h1, h2, hlen, hh, by rw [h4]; rfl⟩
theorem OpG.lookup {t kt e : TypeId} {z : Value} {za : AV} {ok : Bool} {x k : Operand} {x' k' : Opd} (ho : o.op = .lookup t x k ok) (ht : P.underlying t = some (.map kt e)) (hk : isI64 P kt = true) (hz : zeroT P e = some z) (hza : cV z = some za) (hx : cO P x = some x') (hk' : cO P k = some k')
    {cl yl : Nat → List AV → St → Option (AV × St)} (h : evOp cl yl a s (.lookup za ok x' k') = some (v, s')) : OpG w0 P a s s' o v := by
  obtain ⟨p, hp, h_⟩ := ob_some h; clear h; have h := h_; clear h_
  obtain ⟨q, hq, h_⟩ := ob_some h; clear h; have h := h_; clear h_
  split at h
  · rename_i n kv
    obtain ⟨⟨r, s1⟩, hlk, h_⟩ := ob_some h; clear h; have h := h_; clear h_
    split at h
    · rename_i es s2 heq
      cases heq
      obtain ⟨f, hfind, h_⟩ := ob_some h; clear h; have h := h_; clear h_
      obtain ⟨hlt, _, hseg, _, hnx⟩ := look_spec hlk
      have hs : s' = s1 ∧ v = Bool.rec (Option.rec za (fun v => v) f) (.tup [Option.rec za (fun v => v) f, .bool (Option.rec false (fun _ => true) f)]) ok := by
        cases ok <;> cases h <;> exact ⟨rfl, rfl⟩
      obtain ⟨rfl, rfl⟩ := hs
      clear h
      refine ⟨[n], [], hseg, fun m H W act K hg ha hf hr hK => ?_⟩
      have h1 := rdo_spec hx hp hr (by simp [ho, Op.operands]) hg.glob
      have h2 := rdo_spec hk' hq hr (by simp [ho, Op.operands]) hg.glob
      generalize hzx : act.eval x = zx at h1
      generalize hzk : act.eval k = zk at h2
      cases h1; cases h2
      rename_i b hb
      obtain ⟨b', en, clock, hb', hh, hlen, hent, _⟩ := mapo_obj hlk ha (by simp) hg
      rw [hb] at hb'; cases hb'
      have hku := isI64_spec hk
      have hbase : ∀ (fr : Option (Nat × Value)), Instr.findNow (.int .i64) (.int .i64 kv) en.toList 0 = some fr →
          (execOp act.eval o).run P W = .ok (.value (if ok then .tuple #[match fr with | some (_, v) => v | none => z, .bool fr.isSome] else match fr with | some (_, v) => v | none => z)) W := by
        intro fr hfr
        have hfk : (Instr.findKey kt (.int .i64 kv) en.toList).run P W = .ok fr W := by
          simp [Instr.findKey, run_und hku, hfr]
        simp only [execOp, ho, hzx, hzk, Instr.lookup, Sem.run_bind, run_und ht, Result.andThen_ok, run_getObj_map hh, Sem.run_pure, run_checkKey_int hku, hfk]
        cases fr with
        | none => simp only [Sem.run_bind, run_zero hz, Result.andThen_ok, Sem.run_pure]; rfl
        | some q => rfl
      rcases find_spec (m := m) (v := za) 0 hfind hlen (fun j e x he hx => hent j e x he (by rw [← Array.getElem?_toList]; exact hx)) with ⟨rfl, a2, _⟩ | ⟨j, y, u, rfl, a2, a3, a4, a5, _⟩
      · rw [hbase _ a2]
        refine hK m _ W (Stp.looked hseg hnx hg) ?_
        cases ok
        · exact cV_spec hza m
        · have := LR.cons (cV_spec hza m) (LR.cons (.bool false) (LR.nil m))
          exact .tup this.1 this.2
      · rw [hbase _ a5]
        refine hK m _ W (Stp.looked hseg hnx hg) ?_
        cases ok
        · exact a4
        · have := LR.cons a4 (LR.cons (.bool true) (LR.nil m))
          exact .tup this.1 this.2
    · cases h
  · cases h
theorem OpG.mapup {t kt e : TypeId} {x k y : Operand} {x' k' y' : Opd} (ho : o.op = .mapUpdate t x k y) (ht : P.underlying t = some (.map kt e)) (hk : isI64 P kt = true) (hx : cO P x = some x') (hk' : cO P k = some k') (hy : cO P y = some y')
    {cl yl : Nat → List AV → St → Option (AV × St)} (h : evOp cl yl a s (.mapup x' k' y') = some (v, s')) : OpG w0 P a s s' o v := by
  obtain ⟨p, hp, h_⟩ := ob_some h; clear h; have h := h_; clear h_
  obtain ⟨q, hq, h_⟩ := ob_some h; clear h; have h := h_; clear h_
  obtain ⟨va, hva, h_⟩ := ob_some h; clear h; have h := h_; clear h_
  split at h
  · rename_i n kv
    obtain ⟨⟨r, s1⟩, hlk, h_⟩ := ob_some h; clear h; have h := h_; clear h_
    split at h
    · rename_i es s2 heq
      cases heq
      obtain ⟨es', hset, h_⟩ := ob_some h; clear h; have h := h_; clear h_
      obtain ⟨s2, hput, h_⟩ := ob_some h; clear h; have h := h_; clear h_
      cases h
      obtain ⟨hlt, _, hseg, _, hnx⟩ := look_spec hlk
      obtain ⟨_, hseg2, hnx2, _⟩ := putO_spec hput
      refine ⟨[n] ++ [n], [n] ++ [], hseg.trans hseg2, fun m H W act K hg ha hf hr hK => ?_⟩
      have h1 := rdo_spec hx hp hr (by simp [ho, Op.operands]) hg.glob
      have h2 := rdo_spec hk' hq hr (by simp [ho, Op.operands]) hg.glob
      have h3 := rdo_spec hy hva hr (by simp [ho, Op.operands]) hg.glob
      generalize hzx : act.eval x = zx at h1
      generalize hzk : act.eval k = zk at h2
      generalize hzy : act.eval y = zy at h3
      cases h1; cases h2
      rename_i b hb
      obtain ⟨b', en, clock, hb', hh, hlen, hent, hne⟩ := mapo_obj hlk ha (by simp) hg
      rw [hb] at hb'; cases hb'
      have hku := isI64_spec hk
      have hfin : ∃ r, findA kv es = some r := by
        have key : ∀ (es : List (AV × AV)) es', setA kv va es = some es' → ∃ r, findA kv es = some r := by
          intro es
          induction es with
          | nil => intro es' _; exact ⟨none, rfl⟩
          | cons e es ih =>
            intro es' h
            have h' : (match (generalizing := false) e.1 with
              | .int .i64 j => Bool.rec (ob (setA kv va es) fun es => some (e :: es)) (some ((e.1, va) :: es)) (beqI kv j)
              | _ => none) = some es' := h
            have hfd : findA kv (e :: es) = (match (generalizing := false) e.1 with
              | .int .i64 j => Bool.rec (findA kv es) (some (some e.2)) (beqI kv j)
              | _ => none) := rfl
            rw [hfd]
            split at h'
            · rename_i j hj
              rcases rec_two h' with ⟨h1, h2⟩ | ⟨h1, h2⟩
              · obtain ⟨es2, h3, _⟩ := ob_some h2
                obtain ⟨r, hr⟩ := ih _ h3
                exact ⟨r, by simp only [h1, hr]⟩
              · exact ⟨some e.2, by simp only [h1]⟩
            · cases h'
        exact key es es' hset
      obtain ⟨f, hfind⟩ := hfin
      have hdone : ∀ (en' : Array MapEntry) (clock' : Nat), (execOp act.eval o).run P W = .ok .skip { W with heap := W.heap.setIfInBounds b (.map en' clock') } → OR P m (.mapo es') (.map en' clock') → OpOut P K ((execOp act.eval o).run P W) := by
        intro en' clock' hrun hor
        rw [hrun]
        obtain ⟨hblt, _⟩ := Array.getElem?_eq_some_iff.1 hh
        have hst := Stp.put (w0 := w0) (P := P) hput hg hne hb (W' := { W with heap := W.heap.setIfInBounds b (.map en' clock') }) (fun k hk => by simp [Array.getElem?_setIfInBounds, Ne.symm hk]) (fun x hx => by
          cases hx
          exact ⟨.map en' clock', by simp [Array.getElem?_setIfInBounds, hblt], hor, fun c el fr q => by cases q⟩)
        exact hK m _ _ (by simpa using Stp.after hseg hnx hseg2 hg hst) (.tup rfl (fun i a v ha _ => by simp at ha))
      have hsetobj : ∀ ob, (setObj b ob).run P W = .ok () { W with heap := W.heap.setIfInBounds b ob } := fun ob => by simp [setObj, Sem.run, hh]
      rcases find_spec (m := m) (v := va) 0 hfind hlen (fun j e x he hx => hent j e x he (by rw [← Array.getElem?_toList]; exact hx)) with ⟨rfl, a2, a3⟩ | ⟨j, yv, u, rfl, a2, a3, a4, a5, es2, a6, a7, a8⟩
      · rw [hset] at a3
        cases a3
        refine hdone (en.push { key := .int .i64 kv, val := zy, born := clock }) (clock + 1) ?_ ?_
        · have hfk : (Instr.findKey kt (.int .i64 kv) en.toList).run P W = .ok none W := by
            simp [Instr.findKey, run_und hku, a2]
          simp only [execOp, ho, hzx, hzk, hzy, Instr.mapUpdate, Sem.run_bind, run_und ht, Result.andThen_ok, run_getObj_map hh, Sem.run_pure, run_checkKey_int hku, hfk, hsetobj]
        · refine .mapo (by simp [hlen]) (fun i e x he hx => ?_)
          rcases Nat.lt_or_ge i es.length with hi | hi
          · rw [List.getElem?_append_left hi] at he
            rw [Array.getElem?_push, if_neg (by omega)] at hx
            exact hent i e x he hx
          · rw [List.getElem?_append_right hi] at he
            have : i = es.length := by
              rcases Nat.lt_or_ge 0 (i - es.length) with h | h
              · rw [List.getElem?_eq_none (by simp; omega)] at he; cases he
              · omega
            subst this
            rw [Array.getElem?_push, if_pos hlen] at hx
            simp at he hx
            subst he; subst hx
            exact ⟨.int _ _, h3⟩
      · rw [hset] at a6
        cases a6
        rw [Array.getElem?_toList] at a2
        obtain ⟨hjlt, hjy⟩ := Array.getElem?_eq_some_iff.1 a2
        refine hdone (en.modify j fun e => { e with key := .int .i64 kv, val := zy }) clock ?_ ?_
        · have hfk : (Instr.findKey kt (.int .i64 kv) en.toList).run P W = .ok (some (j, yv.val)) W := by
            simp [Instr.findKey, run_und hku, a5]
          have hkts : (Instr.keyThatStays (.int .i64 kv) (.int .i64 kv)).run P W = .ok (.int .i64 kv) W := by
            have : Instr.sameBits 10000 (.int .i64 kv) (.int .i64 kv) = true := by
              have : ∀ d, Instr.sameBits d (.int .i64 kv) (.int .i64 kv) = true := fun d => by cases d <;> simp [Instr.sameBits]
              exact this 10000
            simp [Instr.keyThatStays, this]
          simp only [execOp, ho, hzx, hzk, hzy, Instr.mapUpdate, Sem.run_bind, run_und ht, Result.andThen_ok, run_getObj_map hh, Sem.run_pure, run_checkKey_int hku, hfk, a2, Option.map_some, Option.getD_some, a3, hkts, hsetobj]
        · refine .mapo (by simp [a7, hlen]) (fun i e x he hx => ?_)
          rw [a8] at he
          rw [Array.getElem?_modify] at hx
          by_cases hij : i = j
          · subst hij
            rw [if_pos rfl] at he hx
            rw [a2] at hx
            cases hes : es[i]? with
            | none => rw [hes] at he; cases he
            | some e0 =>
              rw [hes] at he
              cases he; cases hx
              obtain ⟨q1, _⟩ := hent i e0 yv hes a2
              rw [a3] at q1
              exact ⟨q1, h3⟩
          · rw [if_neg hij] at he
            rw [if_neg (Ne.symm hij)] at hx
            exact hent i e x he hx
    · cases h
  · cases h
end
end Go.Proofs.Ytonckpblbdopmaa.Rk
