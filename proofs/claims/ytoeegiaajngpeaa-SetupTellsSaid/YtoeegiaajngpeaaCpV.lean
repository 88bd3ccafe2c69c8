/-
  Rows of the call's own whose elements are replaced one by one, in their place. Nothing of the program.
-/
import Derived.Test.YtoeegiaajngpeaaCpK
import Derived.Test.YtoeegiaajngpeaaCpT2
namespace Go.Proofs.Ytoeegiaajngpeaa
set_option linter.unusedVariables false
set_option linter.unusedSimpArgs false
set_option linter.unusedVariables false
open Go Go.RowKit
section
variable {α : Type} {Ro : α → Value → Prop} {Rn : World → α → Value → Prop} {T : TypeId}
/-- A row of the call's own: ahead of i new elements, each in blocks of its own, from i on the old ones. -/
def HalfG (Ro : α → Value → Prop) (Rn : World → α → Value → Prop) (T : TypeId) (wr : World) (B : Nat) (l : List α) (i : Nat) (v : Value) (xs : List Value) : Prop :=
  wr.ownsRow B T 1 v l.length xs ∧ B ≤ wr.heap.size ∧ (∀ j (h : j < l.length), i ≤ j → ∃ x, xs[j]? = some x ∧ Ro (l[j]'h) x) ∧
  (∀ j (h : j < l.length), j < i → ∃ x lo hi, xs[j]? = some x ∧ B ≤ lo ∧ hi ≤ wr.heap.size ∧ (∀ g, v.ownBlock = some g → g < lo ∨ hi ≤ g) ∧ ∀ w'', Agree lo hi wr w'' → Rn w'' (l[j]'h) x)
theorem HalfG.agree {wr w3 : World} {B i : Nat} {l : List α} {v : Value} {xs : List Value} (h : HalfG Ro Rn T wr B l i v xs) (ha : Agree B wr.heap.size wr w3) (hs : wr.heap.size ≤ w3.heap.size) : HalfG Ro Rn T w3 B l i v xs := by
  obtain ⟨h1, h2, h3, h4⟩ := h
  refine ⟨ownsRow_frame h1 fun g hg => ha g (h1.lt g hg).1 (h1.lt g hg).2, by omega, h3, fun j hj hji => ?_⟩
  obtain ⟨x, lo, hi, e1, e2, e3, e4, e5⟩ := h4 j hj hji
  exact ⟨x, lo, hi, e1, e2, by omega, e4, fun w'' hw'' => e5 w'' ((ha.sub e2 e3).trans hw'')⟩
theorem HalfG.step {wr wx : World} {B i : Nat} {l : List α} {v x : Value} {xs : List Value} (h : HalfG Ro Rn T wr B l i v xs) (hi : i < l.length) (h1 : ∀ b, b < wr.heap.size → v.ownBlock ≠ some b → wx.heap[b]? = wr.heap[b]?)
    (hs : wr.heap.size ≤ wx.heap.size) (hown : wx.ownsRow B T 1 v l.length (xs.set i x)) (hx : ∀ w'', Agree wr.heap.size wx.heap.size wx w'' → Rn w'' (l[i]'hi) x) : HalfG Ro Rn T wx B l (i + 1) v (xs.set i x) := by
  obtain ⟨g1, g2, g3, g4⟩ := h
  have hlen := g1.1
  refine ⟨hown, by omega, fun j hj hji => ?_, fun j hj hji => ?_⟩
  · obtain ⟨y, e1, e2⟩ := g3 j hj (by omega)
    exact ⟨y, by rw [List.getElem?_set_ne (by omega)]; exact e1, e2⟩
  · by_cases hc : j = i
    · subst hc
      refine ⟨x, wr.heap.size, wx.heap.size, ?_, g2, Nat.le_refl _, fun g hg => .inl (g1.lt g hg).2, hx⟩
      rw [List.getElem?_set_self (by omega)]
    · obtain ⟨y, lo, hi', e1, e2, e3, e4, e5⟩ := g4 j hj (by omega)
      refine ⟨y, lo, hi', by rw [List.getElem?_set_ne (by omega)]; exact e1, e2, by omega, e4, fun w'' hw'' => e5 w'' (Agree.trans (fun b hb1 hb2 => h1 b (by omega) (fun he => by rcases e4 b he with h | h <;> omega)) hw'')⟩
theorem HalfG.row {wr : World} {B : Nat} {l : List α} {v : Value} {xs : List Value} (h : HalfG Ro Rn T wr B l l.length v xs) : RowG (R1 Rn) 1 T wr B l l.length v xs := by
  obtain ⟨g1, g2, g3, g4⟩ := h
  refine ⟨g1, g2, fun j hj _ => ?_⟩
  obtain ⟨x, lo, hi, e1, e2, e3, e4, e5⟩ := g4 j hj hj
  refine ⟨[x], lo, hi, rfl, fun i c hic => ?_, e2, e3, e4, fun w'' hw'' => ⟨x, rfl, e5 w'' hw''⟩⟩
  match i, hic with
  | 0, hic => cases hic; simpa using e1
theorem owns_set {w : World} {B n c g i : Nat} {e : TypeId} {xs : List Value} {x : Value} (h : w.ownsRow B e 1 (.slice (some ⟨g, 0, none⟩) n c) n xs) (hi : i < n) :
    (w.setCell ⟨g, i, none⟩ x).ownsRow B e 1 (.slice (some ⟨g, 0, none⟩) n c) n (xs.set i x) := by
  obtain ⟨hlen, ⟨h1, -⟩ | ⟨g', cap, cur, h1, hg, hh, hn, hm, hcs, htk⟩⟩ := h
  · cases h1
  · cases h1
    have hb : Blk w g cur e := hh
    refine ⟨by simpa using hlen, .inr ⟨g, c, cur.setIfInBounds i x, rfl, hg, hb.set i x, hn, hm, by simpa using hcs, ?_⟩⟩
    rw [Array.toList_setIfInBounds, List.take_set, htk]
theorem owns_at {w : World} {B n : Nat} {e : TypeId} {v : Value} {xs : List Value} (h : w.ownsRow B e 1 v n xs) (hn : 0 < n) : ∃ (g c : Nat) (cur : Array Value), v = .slice (some ⟨g, 0, none⟩) n c ∧ B ≤ g ∧ g < w.heap.size ∧ Blk w g cur e ∧ n ≤ c ∧ cur.size = c ∧ ∀ (j : Nat) (x : Value), xs[j]? = some x → cur[j]? = some x := by
  have hlt := h.lt
  obtain ⟨hlen, ⟨-, h1⟩ | ⟨g, cap, cur, rfl, hg, hh, hn', hm, hcs, htk⟩⟩ := h
  · omega
  · refine ⟨g, cap, cur, rfl, hg, (hlt g rfl).2, hh, hn', by omega, fun j x hj => ?_⟩
    rw [← htk, List.getElem?_take] at hj
    split at hj
    · simpa using hj
    · cases hj
theorem owns_len {w : World} {B n : Nat} {e : TypeId} {v : Value} {xs : List Value} (h : w.ownsRow B e 1 v n xs) : xs.length = n := by have := h.1; omega
end
theorem RdTxO.lo {lo lo' : Nat} {l : List St} {w : World} {v : Value} (h : RdTxO lo l w v) (hl : lo' ≤ lo) : RdTxO lo' l w v := by
  refine ⟨h.1, fun hne => ?_⟩
  obtain ⟨g, cap, cells, h1, h2, h3⟩ := h.2 hne
  exact ⟨g, cap, cells, h1, by omega, h3⟩
/-- A thread in blocks not ahead of lo, its transactions too. -/
def RdThO (lo : Nat) (w : World) (th : List (List St)) (v : Value) : Prop :=
  RdThC w th v ∧ (th ≠ [] → ∃ g cap cells, v = .slice (some ⟨g, 0, none⟩) th.length cap ∧ lo ≤ g ∧ Blk w g cells 37 ∧ ∀ k (h : k < th.length), ∃ x, cells[k]? = some x ∧ RdTxO lo (th[k]'h) w x)
theorem rdThO_of {wr : World} {B lo : Nat} {th : List (List St)} {v : Value} {xs : List Value} (hl : th.length ≤ 9223372036854775807) (hlo : lo ≤ B) (h : RowG (R1 (fun w t x => RdTxO lo t w x)) 1 37 wr B th th.length v xs) : ∀ w'', Agree B wr.heap.size wr w'' → RdThO lo w'' th v := by
  intro w'' hw''
  have hg := rowG_end hl h w'' hw''
  refine ⟨⟨RdSl.mono (R := fun w t x => RdTxO lo t w x) (fun _ _ h => h.1) (RdSl.of_G hg), ?_⟩, fun hne => ?_⟩
  · obtain ⟨A, c, rfl⟩ := rowG_slice h
    exact ⟨_, _, rfl, owns_cap h.1⟩
  · obtain ⟨g, c, cur, rfl, h1, h2, h3, h4, h5, h6⟩ := owns_at h.1 (by cases th; exact absurd rfl hne; simp)
    refine ⟨g, c, cur, rfl, by omega, h3.agree hw'' h1 h2, fun k hk => ?_⟩
    obtain ⟨cs, lo', hi, e1, e2, e3, e4, e5, e6⟩ := h.2.2 k hk hk
    obtain ⟨x, rfl, hx⟩ := e6 w'' (hw''.sub e3 e4)
    exact ⟨x, h6 k x (by simpa using e2 0 x rfl), hx⟩
/-- What setup.Copy hands back. -/
def SCopyO (st ck tr : Int) (is : List Int) (ths : List (List (List St))) (w : World) (e : Ending) (w' : World) : Prop :=
  ∃ (vi : Value) (B : Nat) (v : Value) (news : List Value), e = .returned (.agg #[.int .i64 st, .int .i64 ck, .int .i64 tr, vi, v]) ∧ Below w.heap.size w w' ∧ w.heap.size ≤ B ∧
    RowG (R1 (RdThO w.heap.size)) 1 32 w' B ths ths.length v news ∧ w'.ownsRow w.heap.size 2 1 vi is.length (is.map (Value.int .i64)) ∧ (∀ g, vi.ownBlock = some g → g < B)
/-- The cells of rows of one-cell elements. -/
theorem RdSl.cells {α : Type} {R : World → α → Value → Prop} {w : World} {l : List α} {a : Option Addr} {cap : Nat} (h : RdSl R w l (.slice a l.length cap)) : ∃ xs : List Value, xs.length = l.length ∧ (∀ j (hj : j < l.length), ∃ x, xs[j]? = some x ∧ R w (l[j]'hj) x) ∧ (a = none → l.length = 0) ∧ ∀ ad, a = some ad → ∀ j u, xs[j]? = some u → w.cell? (ad.add j) = some u := by
  obtain ⟨p, c, h1, h2, h3⟩ := h
  cases h1
  by_cases hne : l = []
  · subst hne
    exact ⟨[], rfl, fun j hj => by simp at hj, fun _ => rfl, fun _ _ j u hu => by simp at hu⟩
  · obtain ⟨q, off, rfl, h5⟩ := h3 hne
    have hch : ∀ k : Fin l.length, ∃ v, w.cell? ⟨q, off + k.1, none⟩ = some v ∧ R w (l[k.1]'k.2) v := fun k => RdRow.get l h5 k.1 k.2
    refine ⟨List.ofFn fun k => (hch k).choose, by simp, fun j hj => ⟨(hch ⟨j, hj⟩).choose, by simp [List.getElem?_ofFn, hj], (hch ⟨j, hj⟩).choose_spec.2⟩, (fun h => by cases h), fun ad hadd j u hu => ?_⟩
    cases hadd
    have hj : j < l.length := by have := (List.getElem?_eq_some_iff.1 hu).1; simpa using this
    rw [List.getElem?_ofFn, dif_pos hj] at hu
    cases hu
    have := (hch ⟨j, hj⟩).choose_spec.1
    unfold Addr.add
    split
    · rename_i h; subst h; simpa using this
    · exact this
theorem one_of_slices {α : Type} {l : List α} {xs : List Value} {P : α → Value → Prop} (hlen : xs.length = l.length) (h : ∀ j (hj : j < l.length), ∃ x, xs[j]? = some x ∧ P (l[j]'hj) x) (hP : ∀ a x, P a x → ∃ p n c, x = .slice p n c) : ∀ u ∈ xs, u.oneCell' = true := by
  intro u hu
  obtain ⟨j, hj, rfl⟩ := List.getElem_of_mem hu
  obtain ⟨x, h1, h2⟩ := h j (by omega)
  rw [List.getElem?_eq_getElem hj] at h1
  cases h1
  obtain ⟨p, n, c, e⟩ := hP _ _ h2
  rw [e]; rfl
/-- The cells of a row of numbers. -/
theorem ints_cells {w : World} {l : List Int} {a : Option Addr} {cap : Nat} (h : RdInts w l (.slice a l.length cap)) : (a = none → l.length = 0) ∧ ∀ ad, a = some ad → ∀ j u, (l.map (Value.int .i64))[j]? = some u → w.cell? (ad.add j) = some u := by
  obtain ⟨p, c, h1, h2, hr, h3⟩ := h
  cases h1
  by_cases hne : l = []
  · subst hne
    exact ⟨fun _ => rfl, fun _ _ j u hu => by simp at hu⟩
  · obtain ⟨q, off, rfl, h5⟩ := h3 hne
    refine ⟨(fun h => by cases h), fun ad hadd j u hu => ?_⟩
    cases hadd
    have hj : j < l.length := by have := (List.getElem?_eq_some_iff.1 hu).1; simpa using this
    rw [List.getElem?_map, List.getElem?_eq_getElem hj] at hu
    cases hu
    have := h5 j hj
    unfold Addr.add
    split
    · rename_i h; subst h; simpa using this
    · exact this
end Go.Proofs.Ytoeegiaajngpeaa
