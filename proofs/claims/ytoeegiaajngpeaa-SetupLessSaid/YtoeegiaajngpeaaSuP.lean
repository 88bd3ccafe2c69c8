/-
  Setups with fewer threads, or shorter ones: what may be may be, and costs no more; and how they lie in memory.
-/
import Derived.Test.YtoeegiaajngpeaaCpO
import Derived.Test.YtoeegiaajngpeaaSuC3
namespace Go.Proofs.Ytoeegiaajngpeaa
set_option linter.unusedVariables false
set_option linter.unusedSimpArgs false
set_option linter.unusedVariables false
open Go Go.RowKit
theorem fmax_le {α : Type} (f : α → Nat) (b : Nat) : ∀ (l : List α) (n : Nat), n ≤ b → (∀ x ∈ l, f x ≤ b) → l.foldl (fun n t => max n (f t)) n ≤ b
  | [], n, h, _ => h
  | x :: xs, n, h, hx => by
    rw [List.foldl_cons]
    exact fmax_le f b xs _ (by have := hx x List.mem_cons_self; omega) (fun y hy => hx y (List.mem_cons_of_mem _ hy))
theorem fmax_ge {α : Type} (f : α → Nat) : ∀ (l : List α) (n : Nat), n ≤ l.foldl (fun n t => max n (f t)) n ∧ ∀ x ∈ l, f x ≤ l.foldl (fun n t => max n (f t)) n
  | [], n => ⟨Nat.le_refl _, fun x h => by cases h⟩
  | y :: ys, n => by
    rw [List.foldl_cons]
    obtain ⟨h1, h2⟩ := fmax_ge f ys (max n (f y))
    refine ⟨by omega, fun x hx => ?_⟩
    rcases List.mem_cons.1 hx with rfl | hx
    · omega
    · exact h2 x hx
theorem costTh_sub {a b : List (List St)} (h : ∀ t ∈ a, t ∈ b) : costTh a ≤ costTh b := fmax_le _ _ _ _ (Nat.zero_le _) (fun t ht => (fmax_ge _ b 0).2 t (h t ht))
theorem costThs_sub {a b : List (List (List St))} (h : ∀ x ∈ a, ∃ y ∈ b, ∀ t ∈ x, t ∈ y) : costThs a ≤ costThs b :=
  fmax_le _ _ _ _ (Nat.zero_le _) (fun x hx => by
    obtain ⟨y, hy, hs⟩ := h x hx
    exact Nat.le_trans (costTh_sub hs) ((fmax_ge costTh b 0).2 y hy))
theorem goodTh_less {th : List (List St)} (h : GoodTh th) (m : Nat) : GoodTh (th.take m) := by
  refine ⟨by rw [List.length_take]; have := h.1; omega, fun j hj => ?_⟩
  rw [List.getElem_take]
  exact h.2 j (by rw [List.length_take] at hj; omega)
theorem mem_set_of {α : Type} {l : List α} {k : Nat} {y x : α} (h : x ∈ l.set k y) : x = y ∨ x ∈ l := by
  rcases List.mem_or_eq_of_mem_set h with h | h
  · exact .inr h
  · exact .inl h
/-- The three setups of the law. -/
theorem good_stripes {st st' ck tr : Int} {ni : Nat} {ths : List (List (List St))} (h : GoodS st ck tr ni ths) (h1 : 1 ≤ st') (h2 : st' ≤ st) : GoodS st' ck tr ni ths :=
  ⟨⟨h.1.n0, ⟨h1, by have := h.1.s0; omega⟩, h.1.c0, h.1.t0, h.1.l0⟩, h.2⟩
theorem good_take {st ck tr : Int} {ni : Nat} {ths : List (List (List St))} (h : GoodS st ck tr ni ths) (m : Nat) : GoodS st ck tr ni (ths.take m) :=
  ⟨⟨h.1.n0, h.1.s0, h.1.c0, h.1.t0, by rw [List.length_take]; have := h.1.l0; omega⟩, fun th hth => h.2 th (List.mem_of_mem_take hth)⟩
theorem good_set {st ck tr : Int} {ni : Nat} {ths : List (List (List St))} (h : GoodS st ck tr ni ths) (k m : Nat) (hk : k < ths.length) : GoodS st ck tr ni (ths.set k ((ths[k]'hk).take m)) := by
  refine ⟨⟨h.1.n0, h.1.s0, h.1.c0, h.1.t0, by rw [List.length_set]; exact h.1.l0⟩, fun th hth => ?_⟩
  rcases mem_set_of hth with rfl | hth
  · exact goodTh_less (h.2 _ (List.getElem_mem hk)) m
  · exact h.2 th hth
theorem cost_take (ths : List (List (List St))) (m : Nat) : costThs (ths.take m) ≤ costThs ths := costThs_sub fun x hx => ⟨x, List.mem_of_mem_take hx, fun t ht => ht⟩
theorem cost_set (ths : List (List (List St))) (k m : Nat) (hk : k < ths.length) : costThs (ths.set k ((ths[k]'hk).take m)) ≤ costThs ths := costThs_sub fun x hx => by
  rcases mem_set_of hx with rfl | hx
  · exact ⟨_, List.getElem_mem hk, fun t ht => List.mem_of_mem_take ht⟩
  · exact ⟨x, hx, fun t ht => ht⟩
theorem okTh_take {th : List (List St)} (h : okTh th) (m : Nat) : okTh (th.take m) := ⟨by rw [List.length_take]; have := h.1; omega, fun t ht => h.2 t (List.mem_of_mem_take ht)⟩
section
variable {α : Type} {R : World → α → Value → Prop}
/-- The first ones of a row. -/
theorem RdRow.take {w : World} : ∀ (l : List α) {q off : Nat} (m : Nat), RdRow R w q off l → RdRow R w q off (l.take m)
  | l, _, _, 0, _ => by rw [List.take_zero]; unfold RdRow; trivial
  | [], _, _, m + 1, h => by rw [List.take_nil]; exact h
  | x :: xs, q, off, m + 1, h => by
    rw [List.take_succ_cons]
    unfold RdRow at h ⊢
    exact ⟨h.1, RdRow.take xs m h.2⟩
theorem RdSl.take {w : World} {l : List α} {p : Option Addr} {c : Nat} (h : RdSl R w l (.slice p l.length c)) (m c' : Nat) (hm : m ≤ l.length) : RdSl R w (l.take m) (.slice p m c') := by
  obtain ⟨p', cap, h1, h2, h3⟩ := h
  cases h1
  have hlm : (l.take m).length = m := by rw [List.length_take]; omega
  refine ⟨p, c', by rw [hlm], by omega, fun hne => ?_⟩
  obtain ⟨q, off, h4, h5⟩ := h3 (by intro h; subst h; simp at hne)
  exact ⟨q, off, h4, h5.take l m⟩
end
/-- A row of threads of the call's own: a cell each, and each thread in blocks of its own. -/
def ThsAt (wr : World) (B : Nat) (ths : List (List (List St))) (g : Nat) (cur : Array Value) : Prop :=
  Blk wr g cur 32 ∧ B ≤ g ∧ g < wr.heap.size ∧ ∀ j (h : j < ths.length), ∃ p c lo hi, cur[j]? = some (.slice p (ths[j]'h).length c) ∧ (ths[j]'h).length ≤ c ∧ B ≤ lo ∧ hi ≤ wr.heap.size ∧ (g < lo ∨ hi ≤ g) ∧ ∀ w'', Agree lo hi wr w'' → RdTh w'' (ths[j]'h) (.slice p (ths[j]'h).length c)
theorem thsAt_of {wr : World} {B : Nat} {ths : List (List (List St))} {v : Value} {news : List Value} (h : RowG (R1 RdThC) 1 32 wr B ths ths.length v news) (hne : ths ≠ []) :
    ∃ g cap cur, v = .slice (some ⟨g, 0, none⟩) ths.length cap ∧ (ths.length ≤ cap ∧ cap ≤ 9223372036854775807) ∧ ThsAt wr B ths g cur := by
  obtain ⟨hrow, hBw, hel⟩ := h
  have hrow' := hrow
  obtain ⟨hlen, ⟨rfl, h0⟩ | ⟨g, cap, cur, rfl, hg, hh, hn, hm, hcs, htk⟩⟩ := hrow
  · exact absurd (List.eq_nil_of_length_eq_zero h0) hne
  · refine ⟨g, cap, cur, rfl, ⟨hn, by unfold maxLen at hm; omega⟩, hh, hg, (hrow'.lt g rfl).2, fun j hj => ?_⟩
    obtain ⟨cs, lo, hi, e1, e2, e3, e4, e5, e6⟩ := hel j hj hj
    obtain ⟨v, rfl, hv⟩ := e6 wr (Agree.refl _ _ _)
    obtain ⟨-, p, c, rfl, hpc⟩ := hv
    refine ⟨p, c, lo, hi, ?_, hpc, e3, e4, e5 g rfl, fun w'' hw'' => ?_⟩
    · have hu := e2 0 _ rfl
      rw [← htk, List.getElem?_take] at hu
      split at hu
      · simpa using hu
      · cases hu
    · obtain ⟨v', h1, h2⟩ := e6 w'' hw''
      cases h1
      exact h2.1
theorem thsAt_read {wr : World} {B g cap : Nat} {ths : List (List (List St))} {cur : Array Value} (hl : ths.length ≤ 9223372036854775807) (h : ThsAt wr B ths g cur) : ∀ w'', Agree B wr.heap.size wr w'' → RdThs w'' ths (.slice (some ⟨g, 0, none⟩) ths.length cap) := by
  intro w'' hw''
  obtain ⟨h1, h2, h3, h4⟩ := h
  refine ⟨_, cap, rfl, hl, fun _ => ⟨g, 0, rfl, RdRow.of_get _ fun k hk => ?_⟩⟩
  obtain ⟨p, c, lo, hi, e1, -, e2, e3, e4, e5⟩ := h4 k hk
  rw [Nat.zero_add]
  exact ⟨_, (h1.agree hw'' h2 h3).cell k e1, e5 w'' (hw''.sub e2 e3)⟩
theorem thsAt_agree {wr w3 : World} {B g : Nat} {ths : List (List (List St))} {cur : Array Value} (h : ThsAt wr B ths g cur) (ha : Agree B wr.heap.size wr w3) (hs : wr.heap.size ≤ w3.heap.size) : ThsAt w3 B ths g cur := by
  obtain ⟨h1, h2, h3, h4⟩ := h
  refine ⟨h1.agree ha h2 h3, h2, by omega, fun j hj => ?_⟩
  obtain ⟨p, c, lo, hi, e1, e0, e2, e3, e4, e5⟩ := h4 j hj
  exact ⟨p, c, lo, hi, e1, e0, e2, by omega, e4, fun w'' hw'' => e5 w'' ((ha.sub e2 e3).trans hw'')⟩
/-- One thread is made shorter. -/
theorem thsAt_set {wr : World} {B g k m : Nat} {ths : List (List (List St))} {cur : Array Value} (h : ThsAt wr B ths g cur) (hk : k < ths.length) (hm : m ≤ (ths[k]'hk).length) {p : Option Addr} {c c' : Nat} (hmc : m ≤ c') (hc : cur[k]? = some (.slice p (ths[k]'hk).length c)) :
    ThsAt (wr.setCell ⟨g, k, none⟩ (.slice p m c')) B (ths.set k ((ths[k]'hk).take m)) g (cur.setIfInBounds k (.slice p m c')) := by
  obtain ⟨h1, h2, h3, h4⟩ := h
  refine ⟨h1.set _ _, h2, by rw [size_setCell]; exact h3, fun j hj => ?_⟩
  have hj' : j < ths.length := by simpa using hj
  obtain ⟨p', c1, lo, hi, e1, e0, e2, e3, e4, e5⟩ := h4 j hj'
  have hks : k < cur.size := (Array.getElem?_eq_some_iff.1 hc).1
  have hag : Agree lo hi wr (wr.setCell ⟨g, k, none⟩ (.slice p m c')) := fun b hb1 hb2 => Below.heap_setCell wr _ _ b (by dsimp only; omega)
  by_cases hjk : j = k
  · subst hjk
    rw [hc] at e1
    cases e1
    refine ⟨p, c', lo, hi, ?_, by simp [List.length_take]; omega, e2, by rw [size_setCell]; exact e3, e4, fun w'' hw'' => ?_⟩
    · rw [Array.getElem?_setIfInBounds_self_of_lt hks]
      simp [List.length_take, Nat.min_eq_left hm]
    · have := RdSl.take (e5 w'' (hag.trans hw'')) m c' hm
      have hl : ((ths.set j ((ths[j]'hj').take m))[j]'hj) = (ths[j]'hj').take m := by simp
      rw [hl]
      have hl2 : ((ths[j]'hj').take m).length = m := by rw [List.length_take]; omega
      rw [hl2]
      exact this
  · have hl : ((ths.set k ((ths[k]'hk).take m))[j]'hj) = ths[j]'hj' := by simp [Ne.symm hjk]
    refine ⟨p', c1, lo, hi, ?_, by rw [hl]; exact e0, e2, by rw [size_setCell]; exact e3, e4, fun w'' hw'' => ?_⟩
    · rw [Array.getElem?_setIfInBounds_ne (fun h => hjk h.symm), hl]; exact e1
    · rw [hl]; exact e5 w'' (hag.trans hw'')
end Go.Proofs.Ytoeegiaajngpeaa
