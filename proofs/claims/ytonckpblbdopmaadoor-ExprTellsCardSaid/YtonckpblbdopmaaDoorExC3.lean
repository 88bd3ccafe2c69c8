/-
  Copy of expressions by the document, walked: by append, one by one.
-/
import Derived.Test.YtonckpblbdopmaaDoorExC2
import Derived.Test.YtonckpblbdopmaaDoorApp
namespace Go.Proofs.YtonckpblbdopmaaDoor
set_option linter.unusedVariables false
open Go Go.RowKit

section
variable {P : Program} (w : World)
theorem step_append_at {ops : Array Oper} {o : Oper} {a : Act} {K : Act → World → Prop} {Q : Exit → Act → World → Prop} {E : Prop} (hgd : o.guard = none) (s x : Operand) (t : TypeId)
    (ho : o.op = .call { callee := .builtin .append, args := #[s, x], argTypes := #[t, t] })
    (base : Nat) (e : TypeId) (i : TypeInfo) (z : Value) (size bytes : Nat) (ht : P.underlying t = some (.slice e)) (hi : P.info? e = some i) (hz : i.zero = some z)
    (hsize : i.size = size) (hby : i.bytes = bytes) (hzs : z.cells.size = size) (hsz : 0 < size)
    (v : Value) (n : Nat) (xs : List Value) (hs : a.eval s = v) (hown : w.ownsRow base e size v n xs)
    (ad : Addr) (m c : Nat) (news : List Value) (hx : a.eval x = .slice (some ad) m c) (hl : news.length = m * size) (hnews : ∀ j u, news[j]? = some u → w.cell? (ad.add j) = some u) (h1 : ∀ u ∈ news, u.oneCell' = true)
    (h63 : n + m ≤ maxLen) (hbytes : (n + m) * bytes ≤ 140737488355328) (hbase : base ≤ w.heap.size)
    (h : ∀ v' w', w'.ownsRow base e size v' (n + m) (xs ++ news) → w.grownBy w' v.ownBlock → (v'.ownBlock = v.ownBlock ∨ v'.ownBlock = some w.heap.size) → K (a.put o.dst v') w') :
    if Region.wanted o (yielded ops a.tmps) = true then Oper.wp P o a w K Q else E := by
  have hw : Region.wanted o (yielded ops a.tmps) = true := by simp [Region.wanted, hgd]
  rw [if_pos hw]
  obtain ⟨v', w', hr, h2, h3, -, h4⟩ := run_append_own_at (P := P) w base t o.type e i z size bytes ht hi hz hsize hby hzs hsz v n xs hown ad m c news hl hnews h1 h63 hbytes hbase
  unfold Oper.wp execOp
  simp only [ho, resolve, invoke, builtin, Sem.run_bind, Sem.run_pure, Result.andThen_ok, List.map_toArray, List.map_cons, List.map_nil, hs, hx, hr]
  exact h v' w' h2 h3 h4
end

theorem ownsRow_frame {w w' : World} {base size n : Nat} {e : TypeId} {v : Value} {xs : List Value} (h : w.ownsRow base e size v n xs) (hb : ∀ g, v.ownBlock = some g → w'.heap[g]? = w.heap[g]?) : w'.ownsRow base e size v n xs := by
  obtain ⟨h1, h2 | ⟨g, cap, cur, rfl, hg, hh, r⟩⟩ := h
  · exact ⟨h1, .inl h2⟩
  · exact ⟨h1, .inr ⟨g, cap, cur, rfl, hg, (hb g rfl).trans hh, r⟩⟩

/-- A row that has grown to k copies, the row of the call's own, the copies each in blocks of their own. -/
def RowOf (wr : World) (B : Nat) (args : List Ex) (k : Nat) (v : Value) (news : List Value) : Prop :=
  wr.ownsRow B 29 3 v k news ∧ B ≤ wr.heap.size ∧ ∀ j (h : j < args.length), j < k → ∃ a cap lo hi, news[j * 3]? = some (.int .u8 args[j].op) ∧ news[j * 3 + 1]? = some (.int .i64 args[j].n) ∧ news[j * 3 + 2]? = some (.slice a args[j].args.length cap) ∧
    B ≤ lo ∧ hi ≤ wr.heap.size ∧ (∀ g, v.ownBlock = some g → g < lo ∨ hi ≤ g) ∧ ∀ w'', Agree lo hi wr w'' → RdEx w'' args[j] (.int .u8 args[j].op) (.int .i64 args[j].n) (.slice a args[j].args.length cap)

theorem rowOf_step {wr w1 w2 : World} {B k : Nat} {args : List Ex} {v v' : Value} {news : List Value} {o : Obj} {a3 : Option Addr} {c3 : Nat} (hlt : k < args.length) (h : RowOf wr B args k v news) (hB : 0 < B)
    (hb1 : Below wr.heap.size wr w1) (hcp : ∀ w'', Agree wr.heap.size w1.heap.size w1 w'' → RdEx w'' args[k] (.int .u8 args[k].op) (.int .i64 args[k].n) (.slice a3 args[k].args.length c3))
    (hown : w2.ownsRow B 29 3 v' (k + 1) (news ++ [.int .u8 args[k].op, .int .i64 args[k].n, .slice a3 args[k].args.length c3])) (hg : (w1.alloc o).grownBy w2 v.ownBlock)
    (hd : v'.ownBlock = v.ownBlock ∨ v'.ownBlock = some (w1.alloc o).heap.size) :
    RowOf (w2.setCell ⟨B - 1, 2, none⟩ v') B args (k + 1) v' (news ++ [.int .u8 args[k].op, .int .i64 args[k].n, .slice a3 args[k].args.length c3]) := by
  obtain ⟨hrow, hBw, hel⟩ := h
  have hlen := hrow.1
  have hvl : ∀ g, v.ownBlock = some g → B ≤ g ∧ g < wr.heap.size := hrow.lt
  have hs1 := hb1.size
  have hsA : (w1.alloc o).heap.size = w1.heap.size + 1 := by simp
  have hs2 := hg.size
  have hblk : ∀ b, B ≤ b → b < w1.heap.size → v.ownBlock ≠ some b → (w2.setCell ⟨B - 1, 2, none⟩ v').heap[b]? = w1.heap[b]? := by
    intro b h1 h2 h3
    rw [Below.heap_setCell _ _ _ _ (by dsimp only; omega), hg.block b (by omega) (fun h => h3 h.symm)]
    exact (ext_alloc (ext_refl w1) o).block b h2
  refine ⟨ownsRow_frame hown fun g hg' => ?_, by simp only [size_setCell]; omega, fun j hj hjk => ?_⟩
  · have := hown.lt g hg'
    exact Below.heap_setCell _ _ _ _ (by dsimp only; omega)
  · by_cases hc : j < k
    · obtain ⟨a, cap, lo, hi, e0, e1, e2, e3, e4, e5, e6⟩ := hel j hj hc
      have hj3 : j * 3 + 2 < news.length := by omega
      refine ⟨a, cap, lo, hi, ?_, ?_, ?_, e3, by simp only [size_setCell]; omega, ?_, fun w'' hw'' => e6 w'' (Agree.trans (fun b hb1' hb2' => ?_) hw'')⟩
      · rw [List.getElem?_append_left (by omega)]; exact e0
      · rw [List.getElem?_append_left (by omega)]; exact e1
      · rw [List.getElem?_append_left (by omega)]; exact e2
      · intro g hg'
        rcases hd with hd | hd
        · exact e5 g (hd ▸ hg')
        · rw [hd] at hg'; obtain rfl := Option.some.inj hg'; right; omega
      · rw [hblk b (by omega) (by omega) (fun h => by rcases e5 b h with h | h <;> omega)]
        exact hb1.block b (by omega)
    · obtain rfl : j = k := by omega
      refine ⟨a3, c3, wr.heap.size, w1.heap.size, ?_, ?_, ?_, hBw, by simp only [size_setCell]; omega, ?_, fun w'' hw'' => hcp w'' (Agree.trans (fun b hb1' hb2' => ?_) hw'')⟩
      · rw [List.getElem?_append_right (by omega), show j * 3 - news.length = 0 by omega]; rfl
      · rw [List.getElem?_append_right (by omega), show j * 3 + 1 - news.length = 1 by omega]; rfl
      · rw [List.getElem?_append_right (by omega), show j * 3 + 2 - news.length = 2 by omega]; rfl
      · intro g hg'
        rcases hd with hd | hd
        · left; exact (hvl g (hd ▸ hg')).2
        · rw [hd] at hg'; obtain rfl := Option.some.inj hg'; right; omega
      · exact hblk b (by omega) hb2' (fun h => by have := (hvl b h).2; omega)

/-- What the document's Copy hands back. -/
def RCopyOf (w : World) (e : Ex) (en : Ending) (w' : World) : Prop :=
  ∃ a cap, en = .returned (.agg #[.int .u8 e.op, .int .i64 e.n, .slice a e.args.length cap]) ∧ Below w.heap.size w w' ∧
    (∀ w'', Agree w.heap.size w'.heap.size w' w'' → RdEx w'' e (.int .u8 e.op) (.int .i64 e.n) (.slice a e.args.length cap))

theorem rowOf_end {w wr w3 : World} {args : List Ex} {op n : Int} {v : Value} {news : List Value} {B : Nat} (hb0 : 0 ≤ op ∧ op ≤ 255) (hb1 : -9223372036854775808 ≤ n ∧ n ≤ 9223372036854775807) (hl : args.length ≤ 9223372036854775807)
    (h : RowOf wr B args args.length v news) (hB : w.heap.size ≤ B) (hw : Below w.heap.size w w3) (hag : Agree B wr.heap.size wr w3) (hs : wr.heap.size ≤ w3.heap.size) :
    RCopyOf w (.mk op n args) (.returned (.agg #[.int .u8 op, .int .i64 n, v])) w3 := by
  obtain ⟨hrow, hBw, hel⟩ := h
  have hrow' := hrow
  obtain ⟨hlen, ⟨rfl, h0⟩ | ⟨g, cap, cur, rfl, hg, hh, hn, hm, hcs, htk⟩⟩ := hrow
  · refine ⟨none, 0, by simp [Ex.op, Ex.n, Ex.args, h0], hw, fun w'' hw'' => ?_⟩
    unfold RdEx
    refine ⟨rfl, rfl, hb0, hb1, none, 0, rfl, hl, fun hne => absurd (List.eq_nil_of_length_eq_zero h0) hne⟩
  · refine ⟨_, cap, rfl, hw, fun w'' hw'' => ?_⟩
    unfold RdEx
    refine ⟨rfl, rfl, hb0, hb1, _, cap, rfl, hl, fun hne => ⟨g, 0, rfl, RdExs.of_get _ fun k hk => ?_⟩⟩
    have hgl : g < wr.heap.size := (hrow'.lt g rfl).2
    have hgb : Blk wr g cur 29 := hh
    have hgb3 := (hgb.agree hag hg hgl).agree hw'' (by omega) (by omega)
    obtain ⟨a, c, lo, hi, e0, e1, e2, e3, e4, e5, e6⟩ := hel k hk hk
    have key : ∀ (j : Nat) (u : Value), news[j]? = some u → cur[j]? = some u := by
      intro j u hu
      rw [← htk, List.getElem?_take] at hu
      split at hu
      · simpa using hu
      · cases hu
    simp only [Nat.zero_add]
    exact ⟨_, _, _, hgb3.cell _ (key _ _ e0), hgb3.cell _ (key _ _ e1), hgb3.cell _ (key _ _ e2), e6 w'' ((hag.sub e3 e4).trans (hw''.sub (by omega) (by omega)))⟩
end Go.Proofs.YtonckpblbdopmaaDoor
