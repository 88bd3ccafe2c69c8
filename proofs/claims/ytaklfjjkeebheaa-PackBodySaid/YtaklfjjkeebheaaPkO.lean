/-
  Rows of the call's own that grow, an element of m cells each, while older blocks turn: what is known of them, and what they read as behind.
-/
import Derived.Test.YtaklfjjkeebheaaPkA
import Derived.Test.YtaklfjjkeebheaaSuD
import Derived.Test.YtaklfjjkeebheaaOw
namespace Go.Proofs.Ytaklfjjkeebheaa
set_option linter.unusedVariables false
set_option linter.unusedSimpArgs false
set_option linter.unusedVariables false
open Go Go.RowKit
/-- From block lo on, below block hi, both worlds hold the same. -/
def Agree (lo hi : Nat) (w w' : World) : Prop := ∀ b, lo ≤ b → b < hi → w'.heap[b]? = w.heap[b]?
theorem Agree.sub {lo hi lo' hi' : Nat} {w w' : World} (h : Agree lo hi w w') (h1 : lo ≤ lo') (h2 : hi' ≤ hi) : Agree lo' hi' w w' := fun b hb hc => h b (by omega) (by omega)
theorem Agree.trans {lo hi : Nat} {a b c : World} (h : Agree lo hi a b) (k : Agree lo hi b c) : Agree lo hi a c := fun x h1 h2 => (k x h1 h2).trans (h x h1 h2)
theorem Agree.of_below {lo : Nat} {w w' : World} (h : Below w.heap.size w w') : Agree lo w.heap.size w w' := fun b _ hb => h.block b hb
theorem Agree.set {lo hi : Nat} {w : World} (p : Addr) (v : Value) (h : p.block < lo) : Agree lo hi w (w.setCell p v) := fun b hb _ => Below.heap_setCell w p v b (by omega)
theorem Agree.refl (lo hi : Nat) (w : World) : Agree lo hi w w := fun _ _ _ => rfl
theorem Blk.agree {lo hi : Nat} {w w' : World} {b : Nat} {cs : Array Value} {t : TypeId} (h : Blk w b cs t) (ha : Agree lo hi w w') (h1 : lo ≤ b) (h2 : b < hi) : Blk w' b cs t := (ha b h1 h2).trans h

theorem Agree.size {lo hi : Nat} {w w' : World} (h : Agree lo hi w w') (h2 : hi ≤ w.heap.size) (h1 : lo < hi) : hi ≤ w'.heap.size := by
  have := h (hi - 1) (by omega) (by omega)
  rcases Nat.lt_or_ge (hi - 1) w'.heap.size with h' | h'
  · omega
  · rw [Array.getElem?_eq_none h', Array.getElem?_eq_getElem (by omega)] at this; cases this
theorem size_setCell (w : World) (p : Addr) (v : Value) : (w.setCell p v).heap.size = w.heap.size := by simp [World.setCell]

theorem Agree.of_turn {lo : Nat} {rs : List Nat} {w w' : World} (h : Turn rs w w') (hn : ∀ x ∈ rs, x < lo) : Agree lo w.heap.size w w' := fun b hb hl => h.block b hl (fun hm => by have := hn b hm; omega)
theorem ownsRow_frame {w w' : World} {base size n : Nat} {e : TypeId} {v : Value} {xs : List Value} (h : w.ownsRow base e size v n xs) (hb : ∀ g, v.ownBlock = some g → w'.heap[g]? = w.heap[g]?) : w'.ownsRow base e size v n xs := by
  obtain ⟨h1, h2 | ⟨g, cap, cur, rfl, hg, hh, r⟩⟩ := h
  · exact ⟨h1, .inl h2⟩
  · exact ⟨h1, .inr ⟨g, cap, cur, rfl, hg, (hb g rfl).trans hh, r⟩⟩

section
variable {α : Type} {R : World → α → List Value → Prop} {m : Nat} {T : TypeId}
/-- A slice of elements of m cells, read. -/
def RdG (R : World → α → List Value → Prop) (m : Nat) (w : World) (l : List α) (v : Value) : Prop :=
  ∃ p cap, v = .slice p l.length cap ∧ l.length ≤ 9223372036854775807 ∧ (l ≠ [] → ∃ q off, p = some ⟨q, off, none⟩ ∧ ∀ k (h : k < l.length), ∃ cs, cs.length = m ∧ (∀ i c, cs[i]? = some c → w.cell? ⟨q, off + k * m + i, none⟩ = some c) ∧ R w l[k] cs)
/-- A row that has grown to k copies, each in blocks of its own. -/
def RowG (R : World → α → List Value → Prop) (m : Nat) (T : TypeId) (wr : World) (B : Nat) (l : List α) (k : Nat) (v : Value) (news : List Value) : Prop :=
  wr.ownsRow B T m v k news ∧ B ≤ wr.heap.size ∧ ∀ j (h : j < l.length), j < k → ∃ cs lo hi, cs.length = m ∧ (∀ i c, cs[i]? = some c → news[j * m + i]? = some c) ∧
    B ≤ lo ∧ hi ≤ wr.heap.size ∧ (∀ g, v.ownBlock = some g → g < lo ∨ hi ≤ g) ∧ ∀ w'', Agree lo hi wr w'' → R w'' l[j] cs
theorem rowG_nil {wr : World} {B : Nat} {l : List α} (hB : B ≤ wr.heap.size) : RowG R m T wr B l 0 (.slice none 0 0) [] := ⟨World.ownsRow_nil _ _ _ _, hB, fun j _ h => by omega⟩
theorem rowG_slice {wr : World} {B : Nat} {l : List α} {k : Nat} {v : Value} {news : List Value} (h : RowG R m T wr B l k v news) : ∃ A c, v = .slice A k c := by
  obtain ⟨⟨-, ⟨rfl, rfl⟩ | ⟨g, cap, cur, rfl, -⟩⟩, -⟩ := h
  · exact ⟨_, _, rfl⟩
  · exact ⟨_, _, rfl⟩
theorem rowG_own {wr : World} {B : Nat} {l : List α} {k : Nat} {v : Value} {news : List Value} (h : RowG R m T wr B l k v news) : ∀ g, v.ownBlock = some g → B ≤ g ∧ g < wr.heap.size := h.1.lt
theorem rowG_agree {wr w3 : World} {B k : Nat} {l : List α} {v : Value} {news : List Value} (h : RowG R m T wr B l k v news) (ha : Agree B wr.heap.size wr w3) (hs : wr.heap.size ≤ w3.heap.size) : RowG R m T w3 B l k v news := by
  obtain ⟨h1, h2, h3⟩ := h
  refine ⟨ownsRow_frame h1 fun g hg => ha g (h1.lt g hg).1 (h1.lt g hg).2, by omega, fun j hj hjk => ?_⟩
  obtain ⟨cs, lo, hi, e1, e2, e3, e4, e5, e6⟩ := h3 j hj hjk
  exact ⟨cs, lo, hi, e1, e2, e3, by omega, e5, fun w'' hw'' => e6 w'' ((ha.sub e3 e4).trans hw'')⟩
theorem rowG_step {wr w1 wA w2 : World} {B k : Nat} {l : List α} {v v' : Value} {news cs : List Value} (hlt : k < l.length) (h : RowG R m T wr B l k v news) (hm : cs.length = m)
    (hb1 : Agree B wr.heap.size wr w1) (hs1 : wr.heap.size ≤ w1.heap.size) (hcp : ∀ w'', Agree wr.heap.size w1.heap.size w1 w'' → R w'' l[k] cs) (hA : Below w1.heap.size w1 wA)
    (hown : w2.ownsRow B T m v' (k + 1) (news ++ cs)) (hg : wA.grownBy w2 v.ownBlock) (hd : v'.ownBlock = v.ownBlock ∨ v'.ownBlock = some wA.heap.size) :
    RowG R m T w2 B l (k + 1) v' (news ++ cs) := by
  obtain ⟨hrow, hBw, hel⟩ := h
  have hlen := hrow.1
  have hvl : ∀ g, v.ownBlock = some g → B ≤ g ∧ g < wr.heap.size := hrow.lt
  have hsA := hA.size
  have hs2 := hg.size
  have hblk : ∀ b, b < w1.heap.size → v.ownBlock ≠ some b → w2.heap[b]? = w1.heap[b]? := by
    intro b h2 h3
    rw [hg.block b (by omega) (fun h => h3 h.symm)]
    exact hA.block b h2
  refine ⟨hown, by omega, fun j hj hjk => ?_⟩
  by_cases hc : j < k
  · obtain ⟨cs', lo, hi, e1, e2, e3, e4, e5, e6⟩ := hel j hj hc
    refine ⟨cs', lo, hi, e1, fun i c hi' => ?_, e3, by omega, ?_, fun w'' hw'' => e6 w'' (Agree.trans (fun b hb1' hb2' => ?_) hw'')⟩
    · have hil : i < m := by rw [← e1]; exact (List.getElem?_eq_some_iff.1 hi').1
      have : j * m + i < news.length := by
        rw [hlen]
        calc j * m + i < j * m + m := by omega
          _ = (j + 1) * m := by rw [Nat.add_mul, Nat.one_mul]
          _ ≤ k * m := Nat.mul_le_mul_right m hc
      rw [List.getElem?_append_left this]; exact e2 i c hi'
    · intro g hg'
      rcases hd with hd | hd
      · exact e5 g (hd ▸ hg')
      · rw [hd] at hg'; obtain rfl := Option.some.inj hg'; right; omega
    · rw [hblk b (by omega) (fun h => by rcases e5 b h with h | h <;> omega)]
      exact hb1 b (by omega) (by omega)
  · obtain rfl : j = k := by omega
    refine ⟨cs, wr.heap.size, w1.heap.size, hm, fun i c hi' => ?_, hBw, by omega, ?_, fun w'' hw'' => hcp w'' (Agree.trans (fun b hb1' hb2' => ?_) hw'')⟩
    · rw [List.getElem?_append_right (by omega), show j * m + i - news.length = i by omega]; exact hi'
    · intro g hg'
      rcases hd with hd | hd
      · left; exact (hvl g (hd ▸ hg')).2
      · rw [hd] at hg'; obtain rfl := Option.some.inj hg'; right; omega
    · exact hblk b hb2' (fun h => by have := (hvl b h).2; omega)
theorem rowG_end {wr : World} {B : Nat} {l : List α} {v : Value} {news : List Value} (hl : l.length ≤ 9223372036854775807) (h : RowG R m T wr B l l.length v news) : ∀ w'', Agree B wr.heap.size wr w'' → RdG R m w'' l v := by
  intro w'' hw''
  obtain ⟨hrow, hBw, hel⟩ := h
  have hrow' := hrow
  obtain ⟨hlen, ⟨rfl, h0⟩ | ⟨g, cap, cur, rfl, hg, hh, hn, hm, hcs, htk⟩⟩ := hrow
  · exact ⟨none, 0, by rw [h0], hl, fun hne => absurd (List.eq_nil_of_length_eq_zero h0) hne⟩
  · refine ⟨_, cap, rfl, hl, fun hne => ⟨g, 0, rfl, fun k hk => ?_⟩⟩
    have hgl : g < wr.heap.size := (hrow'.lt g rfl).2
    have hgb : Blk wr g cur T := hh
    have hgb3 := hgb.agree hw'' hg hgl
    obtain ⟨cs, lo, hi, e1, e2, e3, e4, e5, e6⟩ := hel k hk hk
    refine ⟨cs, e1, fun i c hi' => ?_, e6 w'' (hw''.sub e3 e4)⟩
    have hu := e2 i c hi'
    rw [← htk, List.getElem?_take] at hu
    split at hu
    · rw [show 0 + k * m + i = k * m + i by omega]
      exact hgb3.cell _ (by simpa using hu)
    · cases hu
end
section
variable {w : World}
theorem RdSts.of_get {b : Nat} : ∀ (l : List St) {off : Nat}, (∀ k (h : k < l.length), ∃ c0 c1 c2 c3 c4 c5 c6 c7 c8 c9, w.cell? ⟨b, off + k * 10, none⟩ = some c0 ∧ w.cell? ⟨b, off + k * 10 + 1, none⟩ = some c1 ∧ w.cell? ⟨b, off + k * 10 + 2, none⟩ = some c2 ∧ w.cell? ⟨b, off + k * 10 + 3, none⟩ = some c3 ∧ w.cell? ⟨b, off + k * 10 + 4, none⟩ = some c4 ∧
      w.cell? ⟨b, off + k * 10 + 5, none⟩ = some c5 ∧ w.cell? ⟨b, off + k * 10 + 6, none⟩ = some c6 ∧ w.cell? ⟨b, off + k * 10 + 7, none⟩ = some c7 ∧ w.cell? ⟨b, off + k * 10 + 8, none⟩ = some c8 ∧ w.cell? ⟨b, off + k * 10 + 9, none⟩ = some c9 ∧ RdSt w l[k] c0 c1 c2 c3 c4 c5 c6 c7 c8 c9) → RdSts w b off l
  | [], _, _ => by unfold RdSts; trivial
  | x :: xs, off, h => by
    unfold RdSts
    have h0 := h 0 (by simp)
    simp only [Nat.zero_mul, Nat.add_zero, List.getElem_cons_zero] at h0
    refine ⟨h0, RdSts.of_get xs fun k hk => ?_⟩
    have h1 := h (k + 1) (by simpa using hk)
    have e : off + (k + 1) * 10 = off + 10 + k * 10 := by omega
    rw [e] at h1
    simp only [List.getElem_cons_succ] at h1
    exact h1
theorem RdRow.of_get {α : Type} {R : World → α → Value → Prop} {b : Nat} : ∀ (l : List α) {off : Nat}, (∀ k (h : k < l.length), ∃ v, w.cell? ⟨b, off + k, none⟩ = some v ∧ R w l[k] v) → RdRow R w b off l
  | [], _, _ => by unfold RdRow; trivial
  | x :: xs, off, h => by
    unfold RdRow
    have h0 := h 0 (by simp)
    simp only [Nat.add_zero, List.getElem_cons_zero] at h0
    refine ⟨h0, RdRow.of_get xs fun k hk => ?_⟩
    have h1 := h (k + 1) (by simpa using hk)
    have e : off + (k + 1) = off + 1 + k := by omega
    rw [e] at h1
    simp only [List.getElem_cons_succ] at h1
    exact h1
end
theorem RdExs.of_get {w : World} {b : Nat} : ∀ (l : List Ex) {off : Nat}, (∀ k (h : k < l.length), ∃ v0 v1 v2,
    w.cell? ⟨b, off + k * 3, none⟩ = some v0 ∧ w.cell? ⟨b, off + k * 3 + 1, none⟩ = some v1 ∧ w.cell? ⟨b, off + k * 3 + 2, none⟩ = some v2 ∧ RdEx w l[k] v0 v1 v2) → RdExs w b off l
  | [], _, _ => by unfold RdExs; trivial
  | x :: xs, off, h => by
    unfold RdExs
    refine ⟨?_, RdExs.of_get xs fun k hk => ?_⟩
    · obtain ⟨v0, v1, v2, h0, h1, h2, h3⟩ := h 0 (by simp)
      simp only [Nat.zero_mul, Nat.add_zero] at h0 h1 h2
      exact ⟨v0, v1, v2, h0, h1, h2, h3⟩
    obtain ⟨v0, v1, v2, h0, h1, h2, h3⟩ := h (k + 1) (by simpa using hk)
    have e : off + (k + 1) * 3 = off + 3 + k * 3 := by omega
    rw [e] at h0 h1 h2
    exact ⟨v0, v1, v2, h0, h1, h2, by simpa using h3⟩
/-- A statement's ten cells as a row; a slice's one. -/
def RSt (w : World) (s : St) (cs : List Value) : Prop := ∃ a0 a1 a2 b0 b1 b2 bo el, cs = [.int .u8 s.kind, .int .i64 s.to, a0, a1, a2, b0, b1, b2, bo, el] ∧ RdSt w s (.int .u8 s.kind) (.int .i64 s.to) a0 a1 a2 b0 b1 b2 bo el
def R1 {α : Type} (Rd : World → α → Value → Prop) (w : World) (x : α) (cs : List Value) : Prop := ∃ v, cs = [v] ∧ Rd w x v
theorem RdTx.of_G {w : World} {l : List St} {v : Value} (h : RdG RSt 10 w l v) : RdTx w l v := by
  obtain ⟨p, cap, rfl, h1, h2⟩ := h
  refine ⟨p, cap, rfl, h1, fun hne => ?_⟩
  obtain ⟨q, off, rfl, h3⟩ := h2 hne
  refine ⟨q, off, rfl, RdSts.of_get _ fun k hk => ?_⟩
  obtain ⟨cs, e1, e2, a0, a1, a2, b0, b1, b2, bo, el, rfl, e3⟩ := h3 k hk
  exact ⟨_, _, _, _, _, _, _, _, _, _, e2 0 _ rfl, e2 1 _ rfl, e2 2 _ rfl, e2 3 _ rfl, e2 4 _ rfl, e2 5 _ rfl, e2 6 _ rfl, e2 7 _ rfl, e2 8 _ rfl, e2 9 _ rfl, e3⟩
theorem RdSl.of_G {α : Type} {Rd : World → α → Value → Prop} {w : World} {l : List α} {v : Value} (h : RdG (R1 Rd) 1 w l v) : RdSl Rd w l v := by
  obtain ⟨p, cap, rfl, h1, h2⟩ := h
  refine ⟨p, cap, rfl, h1, fun hne => ?_⟩
  obtain ⟨q, off, rfl, h3⟩ := h2 hne
  refine ⟨q, off, rfl, RdRow.of_get _ fun k hk => ?_⟩
  obtain ⟨cs, e1, e2, v, rfl, e3⟩ := h3 k hk
  exact ⟨v, by have := e2 0 _ rfl; rwa [show off + k * 1 + 0 = off + k by omega] at this, e3⟩
/-- What a call of the reader's tells: what it hands back reads so, all of it in blocks of the call's own; the reader has gone on. -/
def ReadG (Rd : World → Value → Prop) (rb : Nat) (s : ByteArray) (r' : Rdr) (w : World) (e : Ending) (w' : World) : Prop :=
  ∃ v, e = .returned v ∧ RdrAt w' rb s r'.at_ r'.err ∧ Turn [rb] w w' ∧ ∀ w'', Agree w.heap.size w'.heap.size w' w'' → Rd w'' v
/-- An expression as a value. -/
def RdExV (e : Ex) (w : World) (v : Value) : Prop := ∃ a c, v = .agg #[.int .u8 e.op, .int .i64 e.n, .slice a e.args.length c] ∧ RdEx w e (.int .u8 e.op) (.int .i64 e.n) (.slice a e.args.length c)
theorem RdExV.leaf {op n : Int} (w : World) (h0 : 0 ≤ op ∧ op ≤ 255) (h1 : -9223372036854775808 ≤ n ∧ n ≤ 9223372036854775807) : RdExV (.mk op n []) w (.agg #[.int .u8 op, .int .i64 n, .slice none 0 0]) := by
  refine ⟨none, 0, rfl, ?_⟩
  unfold RdEx
  exact ⟨rfl, rfl, h0, h1, none, 0, rfl, by simp, fun h => absurd rfl h⟩
theorem RdExV.two {w : World} {op : Int} {a b : Ex} {p q : Value} {g : Nat} (h0 : 0 ≤ op ∧ op ≤ 255) (ha : RdExV a w (.agg #[.int .u8 a.op, .int .i64 a.n, p])) (hb : RdExV b w (.agg #[.int .u8 b.op, .int .i64 b.n, q]))
    (hg : Blk w g #[.int .u8 a.op, .int .i64 a.n, p, .int .u8 b.op, .int .i64 b.n, q] 89) : RdExV (.mk op 0 [a, b]) w (.agg #[.int .u8 op, .int .i64 0, .slice (some ⟨g, 0, none⟩) 2 2]) := by
  obtain ⟨pa, ca, e1, ha⟩ := ha
  obtain ⟨pb, cb, e2, hb⟩ := hb
  have f1 : p = .slice pa a.args.length ca := by simpa using e1
  have f2 : q = .slice pb b.args.length cb := by simpa using e2
  subst f1 f2
  refine ⟨_, 2, rfl, ?_⟩
  unfold RdEx
  refine ⟨rfl, rfl, h0, by omega, _, 2, rfl, by simp, fun _ => ⟨g, 0, rfl, ?_⟩⟩
  simp only [RdExs]
  exact ⟨⟨_, _, _, hg.cell 0 rfl, hg.cell 1 rfl, hg.cell 2 rfl, ha⟩, ⟨_, _, _, hg.cell 3 rfl, hg.cell 4 rfl, hg.cell 5 rfl, hb⟩, trivial⟩
theorem exprL_op (d : Nat) (r : Rdr) : (0 ≤ (exprL d r).1.op ∧ (exprL d r).1.op ≤ 8) := by
  have hle := numL_le r 1 8
  cases d with
  | zero => unfold exprL exZ; simp [Ex.op]
  | succ d =>
    unfold exprL
    repeat' split
    all_goals (simp only [Ex.op, exZ]; omega)
theorem sizeE_exprL : ∀ (d : Nat) (r : Rdr), d ≤ 6 → sizeE (exprL d r).1 + 1 ≤ 3 * 2 ^ d
  | 0, r, _ => by unfold exprL exZ; simp [sizeE, sizeL]
  | d + 1, r, h => by
    have h1 := sizeE_exprL d (numL r 1 8).2 (by omega)
    have h2 := sizeE_exprL d (exprL d (numL r 1 8).2).2 (by omega)
    have hp : 1 ≤ 2 ^ d := Nat.one_le_two_pow
    rw [Nat.pow_succ]
    unfold exprL
    repeat' split
    all_goals (simp only [sizeE, sizeL, exZ]; omega)
end Go.Proofs.Ytaklfjjkeebheaa
