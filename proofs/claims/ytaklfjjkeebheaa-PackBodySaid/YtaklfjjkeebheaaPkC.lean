/-
  Walks: parts; (pack.reader).block.
-/
import Derived.Test.YtaklfjjkeebheaaPkB
import Derived.Laws.RangeString
import Derived.Lib.OthersKept
namespace Go.Proofs.Ytaklfjjkeebheaa
set_option linter.unusedVariables false
set_option linter.unusedSimpArgs false
set_option linter.unusedVariables false
open Go Go.RowKit
theorem letters_lt (k : Nat) : ∀ c ∈ lettersOf k, c < 128 := by
  unfold lettersOf
  repeat' split
  all_goals decide
set_option maxRecDepth 100000 in
set_option maxHeartbeats 4000000 in
theorem parts_any (k : Nat) (w : World) (hk : 1 ≤ k ∧ k ≤ 8) : Calls Try.prog 39 #[.int .u8 (k : Int)] w fun e w' => (∃ S, e = .returned (.string S) ∧ byt S = lettersOf k) ∧ Below w.heap.size w w' := by
  have hl : [Value.string ⟨#[]⟩, .string ⟨#[116, 97]⟩, .string ⟨#[116, 97]⟩, .string ⟨#[97, 98]⟩, .string ⟨#[97, 111, 101]⟩, .string ⟨#[97, 111]⟩, .string ⟨#[]⟩, .string ⟨#[111, 101]⟩, .string ⟨#[97]⟩][k]? = some (.string (bstr (lettersOf k))) := by
    obtain ⟨hk1, hk2⟩ := hk
    have : k = 1 ∨ k = 2 ∨ k = 3 ∨ k = 4 ∨ k = 5 ∨ k = 6 ∨ k = 7 ∨ k = 8 := by omega
    rcases this with rfl | rfl | rfl | rfl | rfl | rfl | rfl | rfl <;> rfl
  have hb : byt (bstr (lettersOf k)) = lettersOf k := byt_bstr (fun c hc => by have := letters_lt k c hc; omega)
  have k1 : k < 9 := by omega
  have k2 : (k : Int) < 9 := by omega
  obtain ⟨S, hS⟩ : ∃ S, S = bstr (lettersOf k) := ⟨_, rfl⟩
  rw [← hS] at hl hb
  clear hk hS
  go_enter Try.func39, Try.ntmps39
  go_wp2_with fail
  go_ret
  exact ⟨⟨S, congrArg Ending.returned (by rw [List.getElem?_eq_getElem (by simp; omega)] at hl; exact Option.some.inj hl), hb⟩, ext_alloc (ext_refl _) _⟩
theorem wpList_append_run {P : Program} {ops : Array Oper} {rest : List Oper} {o : Oper} {a : Act} {w w' : World} {Q : Exit → Act → World → Prop} (hgd : o.guard = none) (s x : Operand) (t u : TypeId) (vs vx v' : Value)
    (ho : o.op = .call { callee := .builtin .append, args := #[s, x], argTypes := #[t, u] }) (hs : a.eval s = vs) (hx : a.eval x = vx) (hrun : (Builtin.append_ #[t, u] o.type #[vs, vx]).run P w = .ok v' w') (h : wpList P ops Q rest (a.put o.dst v') w') : wpList P ops Q (o :: rest) a w :=
  wpList_plain hgd fun K hK => by
    unfold Oper.wp execOp
    simp only [ho, resolve, invoke, builtin, Sem.run_bind, Sem.run_pure, Result.andThen_ok, List.map_toArray, List.map_cons, List.map_nil, hs, hx, hrun]
    exact hK _ _ h
theorem Turn.grown {rs : List Nat} {a b c : World} {row : Option Nat} (h : Turn rs a b) (g : b.grownBy c row) (hr : ∀ r, row = some r → a.heap.size ≤ r) : Turn rs a c :=
  ⟨g.os.trans h.os, g.tape.trans h.tape, g.output.trans h.output, Nat.le_trans h.size g.size, fun k hk hn => by
    rw [g.block k (Nat.lt_of_lt_of_le hk h.size) (fun e => by have := hr k e.symm; omega)]
    exact h.block k hk hn⟩
section
variable {α : Type} {R : World → α → List Value → Prop} {m : Nat} {T : TypeId}
theorem rowG_more {wr : World} {B k : Nat} {l : List α} {v : Value} {news : List Value} (h : RowG R m T wr B l k v news) (hk : k ≤ l.length) (xs : List α) : RowG R m T wr B (l ++ xs) k v news := by
  obtain ⟨h1, h2, h3⟩ := h
  refine ⟨h1, h2, fun j hj hjk => ?_⟩
  obtain ⟨cs, lo, hi, e1, e2, e3, e4, e5, e6⟩ := h3 j (by omega) hjk
  exact ⟨cs, lo, hi, e1, e2, e3, e4, e5, fun w'' hw => by rw [List.getElem_append_left (by omega)]; exact e6 w'' hw⟩
/-- One element more is appended. -/
theorem rowG_app {P : Program} {wr w1 : World} {B k by_ : Nat} {l : List α} {v : Value} {news : List Value} {t : TypeId} {i0 : TypeInfo} {z : Value} (x : α) (cs : List Value) (h : RowG R m T wr B l k v news) (hl : l.length = k) (hm : cs.length = m) (hm0 : 0 < m)
    (h1 : Agree B wr.heap.size wr w1) (hs : wr.heap.size ≤ w1.heap.size) (hcp : ∀ w'', Agree wr.heap.size w1.heap.size w1 w'' → R w'' x cs)
    (ht : P.underlying t = some (.slice T)) (hi : P.info? T = some i0) (hz : i0.zero = some z) (hsz : i0.size = m) (hby : i0.bytes = by_) (hzc : z.cells.size = m) (hone : ∀ u ∈ cs, u.oneCell' = true) (h63 : k + 1 ≤ maxLen) (hb : (k + 1) * by_ ≤ 140737488355328) :
    ∃ v' w2 g c, (Builtin.append_ #[t, t] t #[v, .slice (some ⟨w1.heap.size, 0, none⟩) 1 1]).run P (w1.alloc (.cells cs.toArray T)) = .ok v' w2 ∧ v' = .slice (some ⟨g, 0, none⟩) (k + 1) c ∧
      RowG R m T w2 B (l ++ [x]) (k + 1) v' (news ++ cs) ∧ (w1.alloc (.cells cs.toArray T)).grownBy w2 v.ownBlock ∧ (∀ g, v.ownBlock = some g → B ≤ g) := by
  have hrow := h.1
  have hBw := h.2.1
  have hown1 : w1.ownsRow B T m v k news := ownsRow_frame hrow fun g hg => h1 g (hrow.lt g hg).1 (hrow.lt g hg).2
  obtain ⟨v', w2, hrun, hown', hg, -, hv⟩ := run_append_own_at (P := P) (w1.alloc (.cells cs.toArray T)) B t t T i0 z m by_ ht hi hz hsz hby hzc hm0 v k news (hown1.alloc _) ⟨w1.heap.size, 0, none⟩ 1 1 cs (by omega)
    (fun j u hu => by
      have hh : (⟨w1.heap.size, 0, none⟩ : Addr).add j = ⟨w1.heap.size, j, none⟩ := by unfold Addr.add; split <;> simp_all
      rw [hh]; exact (Blk.new w1 cs.toArray T).cell j (by simpa using hu)) hone h63 hb (by rw [World.size_alloc]; omega)
  obtain ⟨g, c, hv'⟩ : ∃ g c, v' = .slice (some ⟨g, 0, none⟩) (k + 1) c := by
    rcases hown'.2 with ⟨_, h0⟩ | ⟨g, c, cur, hh, -⟩
    · omega
    · exact ⟨g, c, hh⟩
  refine ⟨v', w2, g, c, hrun, hv', ?_, hg, fun g hg => (hrow.lt g hg).1⟩
  refine rowG_step (w1 := w1) (wA := w1.alloc (.cells cs.toArray T)) (by simp; omega) (rowG_more h (by omega) [x]) hm h1 hs (fun w'' hw => ?_) (ext_alloc (ext_refl _) _) hown' hg (by rw [World.size_alloc] at hv ⊢; exact hv)
  have : (l ++ [x])[k]'(by simp; omega) = x := by simp [← hl]
  rw [this]; exact hcp w'' hw
end
/-- A statement while its parts are read. -/
def StI (W : World) (X lo : Nat) (st : St) : Prop := ∃ a2 b2 bo el, Blk W X #[.int .u8 st.kind, .int .i64 st.to, .int .u8 st.a.op, .int .i64 st.a.n, a2, .int .u8 st.b.op, .int .i64 st.b.n, b2, bo, el] 91 ∧
  ∀ w'', Agree lo W.heap.size W w'' → RdExV st.a w'' (.agg #[.int .u8 st.a.op, .int .i64 st.a.n, a2]) ∧ RdExV st.b w'' (.agg #[.int .u8 st.b.op, .int .i64 st.b.n, b2]) ∧ RdTx w'' st.body bo ∧ RdTx w'' st.els el
theorem StI.turn {W W' : World} {X lo : Nat} {st : St} (h : StI W X lo st) (hb : W'.heap[X]? = W.heap[X]?) (ha : Agree lo W.heap.size W W') (hs : W.heap.size ≤ W'.heap.size) : StI W' X lo st := by
  obtain ⟨a2, b2, bo, el, h1, h2⟩ := h
  exact ⟨a2, b2, bo, el, hb.trans h1, fun w'' hw => h2 w'' (ha.trans (hw.sub (Nat.le_refl _) hs))⟩
theorem StI.setTo {W : World} {X lo : Nat} {st : St} (h : StI W X lo st) (hX : X < lo) (n : Int) : StI (W.setCell ⟨X, 1, none⟩ (.int .i64 n)) X lo (.mk st.kind n st.a st.b st.body st.els) := by
  obtain ⟨a2, b2, bo, el, h1, h2⟩ := h
  exact ⟨a2, b2, bo, el, by simpa [St.kind, St.to, St.a, St.b] using h1.set 1 (.int .i64 n), fun w'' hw => h2 w'' ((Agree.set _ _ hX).trans (by rwa [size_setCell] at hw))⟩
theorem StI.setA {W : World} {X lo : Nat} {st : St} (h : StI W X lo st) (hX : X < lo) (e : Ex) (v : Value) (hv : ∀ w'', Agree lo W.heap.size W w'' → RdExV e w'' (.agg #[.int .u8 e.op, .int .i64 e.n, v])) :
    StI (((W.setCell ⟨X, 2, none⟩ (.int .u8 e.op)).setCell ⟨X, 3, none⟩ (.int .i64 e.n)).setCell ⟨X, 4, none⟩ v) X lo (.mk st.kind st.to e st.b st.body st.els) := by
  obtain ⟨a2, b2, bo, el, h1, h2⟩ := h
  refine ⟨v, b2, bo, el, by simpa [St.kind, St.to, St.a, St.b] using ((h1.set 2 (.int .u8 e.op)).set 3 (.int .i64 e.n)).set 4 v, fun w'' hw => ?_⟩
  simp only [size_setCell] at hw
  have hA := (((Agree.set (hi := W.heap.size) _ _ hX).trans (Agree.set _ _ hX)).trans (Agree.set _ _ hX)).trans hw
  exact ⟨hv w'' hA, (h2 w'' hA).2⟩
theorem StI.setB {W : World} {X lo : Nat} {st : St} (h : StI W X lo st) (hX : X < lo) (e : Ex) (v : Value) (hv : ∀ w'', Agree lo W.heap.size W w'' → RdExV e w'' (.agg #[.int .u8 e.op, .int .i64 e.n, v])) :
    StI (((W.setCell ⟨X, 5, none⟩ (.int .u8 e.op)).setCell ⟨X, 6, none⟩ (.int .i64 e.n)).setCell ⟨X, 7, none⟩ v) X lo (.mk st.kind st.to st.a e st.body st.els) := by
  obtain ⟨a2, b2, bo, el, h1, h2⟩ := h
  refine ⟨a2, v, bo, el, by simpa [St.kind, St.to, St.a, St.b] using ((h1.set 5 (.int .u8 e.op)).set 6 (.int .i64 e.n)).set 7 v, fun w'' hw => ?_⟩
  simp only [size_setCell] at hw
  have hA := (((Agree.set (hi := W.heap.size) _ _ hX).trans (Agree.set _ _ hX)).trans (Agree.set _ _ hX)).trans hw
  exact ⟨(h2 w'' hA).1, hv w'' hA, (h2 w'' hA).2.2⟩
theorem StI.setO {W : World} {X lo : Nat} {st : St} (h : StI W X lo st) (hX : X < lo) (l : List St) (v : Value) (hv : ∀ w'', Agree lo W.heap.size W w'' → RdTx w'' l v) :
    StI (W.setCell ⟨X, 8, none⟩ v) X lo (.mk st.kind st.to st.a st.b l st.els) := by
  obtain ⟨a2, b2, bo, el, h1, h2⟩ := h
  refine ⟨a2, b2, v, el, by simpa [St.kind, St.to, St.a, St.b] using h1.set 8 v, fun w'' hw => ?_⟩
  rw [size_setCell] at hw
  have hA := (Agree.set (hi := W.heap.size) _ _ hX).trans hw
  exact ⟨(h2 w'' hA).1, (h2 w'' hA).2.1, hv w'' hA, (h2 w'' hA).2.2.2⟩
theorem StI.setE {W : World} {X lo : Nat} {st : St} (h : StI W X lo st) (hX : X < lo) (l : List St) (v : Value) (hv : ∀ w'', Agree lo W.heap.size W w'' → RdTx w'' l v) :
    StI (W.setCell ⟨X, 9, none⟩ v) X lo (.mk st.kind st.to st.a st.b st.body l) := by
  obtain ⟨a2, b2, bo, el, h1, h2⟩ := h
  refine ⟨a2, b2, bo, v, by simpa [St.kind, St.to, St.a, St.b] using h1.set 9 v, fun w'' hw => ?_⟩
  rw [size_setCell] at hw
  have hA := (Agree.set (hi := W.heap.size) _ _ hX).trans hw
  exact ⟨(h2 w'' hA).1, (h2 w'' hA).2.1, (h2 w'' hA).2.2.1, hv w'' hA⟩
theorem StI.rst {W : World} {X lo : Nat} {st : St} (h : StI W X lo st) (hk : 0 ≤ st.kind ∧ st.kind ≤ 255) (ht : -9223372036854775808 ≤ st.to ∧ st.to ≤ 9223372036854775807) :
    ∃ p2 c2 p5 c5 p8 c8 p9 c9, Blk W X #[.int .u8 st.kind, .int .i64 st.to, .int .u8 st.a.op, .int .i64 st.a.n, .slice p2 st.a.args.length c2, .int .u8 st.b.op, .int .i64 st.b.n, .slice p5 st.b.args.length c5, .slice p8 st.body.length c8, .slice p9 st.els.length c9] 91 ∧
      ∀ w'', Agree lo W.heap.size W w'' → RSt w'' st [.int .u8 st.kind, .int .i64 st.to, .int .u8 st.a.op, .int .i64 st.a.n, .slice p2 st.a.args.length c2, .int .u8 st.b.op, .int .i64 st.b.n, .slice p5 st.b.args.length c5, .slice p8 st.body.length c8, .slice p9 st.els.length c9] := by
  obtain ⟨a2, b2, bo, el, h1, h2⟩ := h
  obtain ⟨⟨pa, ca, ea, -⟩, ⟨pb, cb, eb, -⟩, ⟨po, co, eo, -, -⟩, ⟨pe, ce, ee, -, -⟩⟩ := h2 W (Agree.refl _ _ _)
  have f1 : a2 = .slice pa st.a.args.length ca := by simpa using ea
  have f2 : b2 = .slice pb st.b.args.length cb := by simpa using eb
  subst f1 f2 eo ee
  refine ⟨pa, ca, pb, cb, po, co, pe, ce, h1, fun w'' hw => ?_⟩
  obtain ⟨⟨pa', ca', ea', ha⟩, ⟨pb', cb', eb', hb⟩, ho, he⟩ := h2 w'' hw
  have f1 : Value.slice pa st.a.args.length ca = .slice pa' st.a.args.length ca' := by simpa using ea'
  have f2 : Value.slice pb st.b.args.length cb = .slice pb' st.b.args.length cb' := by simpa using eb'
  rw [← f1] at ha
  rw [← f2] at hb
  refine ⟨_, _, _, _, _, _, _, _, rfl, ?_⟩
  cases st with | mk kind tt a b body els =>
  unfold RdSt
  exact ⟨rfl, rfl, hk, ht, ha, hb, ho, he⟩
theorem grown_at {w1 w2 : World} {o : Obj} {row : Option Nat} (h : (w1.alloc o).grownBy w2 row) {j : Nat} (hj : j < w1.heap.size) (hr : row ≠ some j) : w2.heap[j]? = w1.heap[j]? := by
  rw [h.block j (by rw [World.size_alloc]; omega) (fun e => hr e.symm)]
  exact (ext_alloc (ext_refl w1) o).block j hj
end Go.Proofs.Ytaklfjjkeebheaa
