/-
  Rows of the call's own that grow by copies, an element of m cells each: what is known of them, and what they read as behind. Nothing of the program.
-/
import Derived.Test.YtoeegiaajngpeaaSuG4
import Derived.Test.YtoeegiaajngpeaaSuO
namespace Go.Proofs.Ytoeegiaajngpeaa
set_option linter.unusedVariables false
set_option linter.unusedSimpArgs false
set_option linter.unusedVariables false
open Go Go.RowKit
section
variable {α : Type} {R : World → α → List Value → Prop} {m : Nat} {T : TypeId}
/-- A slice of elements of m cells, read. -/
def RdG (R : World → α → List Value → Prop) (m : Nat) (w : World) (l : List α) (v : Value) : Prop :=
  ∃ p cap, v = .slice p l.length cap ∧ l.length ≤ 9223372036854775807 ∧ (l ≠ [] → ∃ q off, p = some ⟨q, off, none⟩ ∧ ∀ k (h : k < l.length), ∃ cs, cs.length = m ∧ (∀ i c, cs[i]? = some c → w.cell? ⟨q, off + k * m + i, none⟩ = some c) ∧ R w l[k] cs)
/-- A row that has grown to k copies, each in blocks of its own. -/
def RowG (R : World → α → List Value → Prop) (m : Nat) (T : TypeId) (wr : World) (B : Nat) (l : List α) (k : Nat) (v : Value) (news : List Value) : Prop :=
  wr.ownsRow B T m v k news ∧ B ≤ wr.heap.size ∧ ∀ j (h : j < l.length), j < k → ∃ cs lo hi, cs.length = m ∧ (∀ i c, cs[i]? = some c → news[j * m + i]? = some c) ∧
    B ≤ lo ∧ hi ≤ wr.heap.size ∧ (∀ g, v.ownBlock = some g → g < lo ∨ hi ≤ g) ∧ ∀ w'', Agree lo hi wr w'' → R w'' l[j] cs
theorem rowG_nil {wr : World} {B : Nat} {l : List α} (hB : B ≤ wr.heap.size) : RowG R m T wr B l 0 (.slice none 0 0) [] := ⟨World.ownsRow_nil _ _ _ _, hB, fun j _ h => by omega⟩
theorem rowG_slice {wr : World} {B : Nat} {l : List α} {k : Nat} {v : Value} {news : List Value} (h : RowG R m T wr B l k v news) : ∃ A c, v = .slice A k c := by
  obtain ⟨⟨-, ⟨rfl, rfl⟩ | ⟨g, cap, cur, rfl, -⟩⟩, -⟩ := h
  · exact ⟨_, _, rfl⟩
  · exact ⟨_, _, rfl⟩
theorem rowG_own {wr : World} {B : Nat} {l : List α} {k : Nat} {v : Value} {news : List Value} (h : RowG R m T wr B l k v news) : ∀ g, v.ownBlock = some g → B ≤ g ∧ g < wr.heap.size := h.1.lt
theorem rowG_agree {wr w3 : World} {B k : Nat} {l : List α} {v : Value} {news : List Value} (h : RowG R m T wr B l k v news) (ha : Agree B wr.heap.size wr w3) (hs : wr.heap.size ≤ w3.heap.size) : RowG R m T w3 B l k v news := by
  obtain ⟨h1, h2, h3⟩ := h
  refine ⟨ownsRow_frame h1 fun g hg => ha g (h1.lt g hg).1 (h1.lt g hg).2, by omega, fun j hj hjk => ?_⟩
  obtain ⟨cs, lo, hi, e1, e2, e3, e4, e5, e6⟩ := h3 j hj hjk
  exact ⟨cs, lo, hi, e1, e2, e3, by omega, e5, fun w'' hw'' => e6 w'' ((ha.sub e3 e4).trans hw'')⟩
theorem rowG_step {wr w1 wA w2 : World} {B k : Nat} {l : List α} {v v' : Value} {news cs : List Value} (hlt : k < l.length) (h : RowG R m T wr B l k v news) (hm : cs.length = m)
    (hb1 : Below wr.heap.size wr w1) (hcp : ∀ w'', Agree wr.heap.size w1.heap.size w1 w'' → R w'' l[k] cs) (hA : Below w1.heap.size w1 wA)
    (hown : w2.ownsRow B T m v' (k + 1) (news ++ cs)) (hg : wA.grownBy w2 v.ownBlock) (hd : v'.ownBlock = v.ownBlock ∨ v'.ownBlock = some wA.heap.size) :
    RowG R m T w2 B l (k + 1) v' (news ++ cs) := by
  obtain ⟨hrow, hBw, hel⟩ := h
  have hlen := hrow.1
  have hvl : ∀ g, v.ownBlock = some g → B ≤ g ∧ g < wr.heap.size := hrow.lt
  have hs1 := hb1.size
  have hsA := hA.size
  have hs2 := hg.size
  have hblk : ∀ b, b < w1.heap.size → v.ownBlock ≠ some b → w2.heap[b]? = w1.heap[b]? := by
    intro b h2 h3
    rw [hg.block b (by omega) (fun h => h3 h.symm)]
    exact hA.block b h2
  refine ⟨hown, by omega, fun j hj hjk => ?_⟩
  by_cases hc : j < k
  · obtain ⟨cs', lo, hi, e1, e2, e3, e4, e5, e6⟩ := hel j hj hc
    refine ⟨cs', lo, hi, e1, fun i c hi' => ?_, e3, by omega, ?_, fun w'' hw'' => e6 w'' (Agree.trans (fun b hb1' hb2' => ?_) hw'')⟩
    · have hil : i < m := by rw [← e1]; exact (List.getElem?_eq_some_iff.1 hi').1
      have : j * m + i < news.length := by
        rw [hlen]
        calc j * m + i < j * m + m := by omega
          _ = (j + 1) * m := by rw [Nat.add_mul, Nat.one_mul]
          _ ≤ k * m := Nat.mul_le_mul_right m hc
      rw [List.getElem?_append_left this]; exact e2 i c hi'
    · intro g hg'
      rcases hd with hd | hd
      · exact e5 g (hd ▸ hg')
      · rw [hd] at hg'; obtain rfl := Option.some.inj hg'; right; omega
    · rw [hblk b (by omega) (fun h => by rcases e5 b h with h | h <;> omega)]
      exact hb1.block b (by omega)
  · obtain rfl : j = k := by omega
    refine ⟨cs, wr.heap.size, w1.heap.size, hm, fun i c hi' => ?_, hBw, by omega, ?_, fun w'' hw'' => hcp w'' (Agree.trans (fun b hb1' hb2' => ?_) hw'')⟩
    · rw [List.getElem?_append_right (by omega), show j * m + i - news.length = i by omega]; exact hi'
    · intro g hg'
      rcases hd with hd | hd
      · left; exact (hvl g (hd ▸ hg')).2
      · rw [hd] at hg'; obtain rfl := Option.some.inj hg'; right; omega
    · exact hblk b hb2' (fun h => by have := (hvl b h).2; omega)
theorem rowG_end {wr : World} {B : Nat} {l : List α} {v : Value} {news : List Value} (hl : l.length ≤ 9223372036854775807) (h : RowG R m T wr B l l.length v news) : ∀ w'', Agree B wr.heap.size wr w'' → RdG R m w'' l v := by
  intro w'' hw''
  obtain ⟨hrow, hBw, hel⟩ := h
  have hrow' := hrow
  obtain ⟨hlen, ⟨rfl, h0⟩ | ⟨g, cap, cur, rfl, hg, hh, hn, hm, hcs, htk⟩⟩ := hrow
  · exact ⟨none, 0, by rw [h0], hl, fun hne => absurd (List.eq_nil_of_length_eq_zero h0) hne⟩
  · refine ⟨_, cap, rfl, hl, fun hne => ⟨g, 0, rfl, fun k hk => ?_⟩⟩
    have hgl : g < wr.heap.size := (hrow'.lt g rfl).2
    have hgb : Blk wr g cur T := hh
    have hgb3 := hgb.agree hw'' hg hgl
    obtain ⟨cs, lo, hi, e1, e2, e3, e4, e5, e6⟩ := hel k hk hk
    refine ⟨cs, e1, fun i c hi' => ?_, e6 w'' (hw''.sub e3 e4)⟩
    have hu := e2 i c hi'
    rw [← htk, List.getElem?_take] at hu
    split at hu
    · rw [show 0 + k * m + i = k * m + i by omega]
      exact hgb3.cell _ (by simpa using hu)
    · cases hu
end
/-- What a copier hands back: what reads so, all of it in blocks of its own. -/
def CopyG (Rd : World → Value → Prop) (w : World) (e : Ending) (w' : World) : Prop :=
  ∃ v, e = .returned v ∧ Below w.heap.size w w' ∧ ∀ w'', Agree w.heap.size w'.heap.size w' w'' → Rd w'' v
/-- A statement's ten cells as a row; a slice's one. -/
def RSt (w : World) (s : St) (cs : List Value) : Prop := ∃ a0 a1 a2 b0 b1 b2 bo el, cs = [.int .u8 s.kind, .int .i64 s.to, a0, a1, a2, b0, b1, b2, bo, el] ∧ RdSt w s (.int .u8 s.kind) (.int .i64 s.to) a0 a1 a2 b0 b1 b2 bo el
def R1 {α : Type} (Rd : World → α → Value → Prop) (w : World) (x : α) (cs : List Value) : Prop := ∃ v, cs = [v] ∧ Rd w x v
theorem RdTx.of_G {w : World} {l : List St} {v : Value} (h : RdG RSt 10 w l v) : RdTx w l v := by
  obtain ⟨p, cap, rfl, h1, h2⟩ := h
  refine ⟨p, cap, rfl, h1, fun hne => ?_⟩
  obtain ⟨q, off, rfl, h3⟩ := h2 hne
  refine ⟨q, off, rfl, RdSts.of_get _ fun k hk => ?_⟩
  obtain ⟨cs, e1, e2, a0, a1, a2, b0, b1, b2, bo, el, rfl, e3⟩ := h3 k hk
  exact ⟨_, _, _, _, _, _, _, _, _, _, e2 0 _ rfl, e2 1 _ rfl, e2 2 _ rfl, e2 3 _ rfl, e2 4 _ rfl, e2 5 _ rfl, e2 6 _ rfl, e2 7 _ rfl, e2 8 _ rfl, e2 9 _ rfl, e3⟩
theorem RdSl.of_G {α : Type} {Rd : World → α → Value → Prop} {w : World} {l : List α} {v : Value} (h : RdG (R1 Rd) 1 w l v) : RdSl Rd w l v := by
  obtain ⟨p, cap, rfl, h1, h2⟩ := h
  refine ⟨p, cap, rfl, h1, fun hne => ?_⟩
  obtain ⟨q, off, rfl, h3⟩ := h2 hne
  refine ⟨q, off, rfl, RdRow.of_get _ fun k hk => ?_⟩
  obtain ⟨cs, e1, e2, v, rfl, e3⟩ := h3 k hk
  exact ⟨v, by have := e2 0 _ rfl; rwa [show off + k * 1 + 0 = off + k by omega] at this, e3⟩
end Go.Proofs.Ytoeegiaajngpeaa
