/-
  Reckoning a program in the kernel: looking at memory, writing, laying new blocks, in both. Nothing of the program.
-/
import Derived.Test.YtonckpblbdopmaaRu4
namespace Go.Proofs.Ytonckpblbdopmaa.Rk
set_option linter.unusedVariables false
open Go

theorem rec_some {α : Type} {b : Bool} {x : Option α} {r : α} (h : (Bool.rec none x b : Option α) = some r) : b = true ∧ x = some r := by
  cases b with
  | true => exact ⟨rfl, h⟩
  | false => cases h
theorem rec_two {α : Type} {b : Bool} {x y r : α} (h : (Bool.rec x y b : α) = r) : (b = false ∧ x = r) ∨ (b = true ∧ y = r) := by
  cases b with
  | true => exact .inr ⟨rfl, h⟩
  | false => exact .inl ⟨rfl, h⟩
theorem fT_some {α β : Type} {t : Tri α} {k : Tri α → Option β} {r : β} (h : fT t k = some r) : k t = some r := by
  cases t with
  | leaf => cases h
  | node l v r => exact h
section
variable {w0 : World} {P : Program} {G : Nat} {s s' : St} {m : Tl} {H : Hp} {W : World}

theorem look_spec {n : Nat} {o : AObj} (h : look n s = some (o, s')) : n < s.nx ∧ s.H n = some o ∧ Seg s s' [n] [] ∧ s'.H = s.H ∧ s'.nx = s.nx := by
  unfold look at h
  obtain ⟨h1, h⟩ := rec_some h
  obtain ⟨o', h2, h⟩ := ob_some h
  cases h
  have := Nat.le_of_ble_eq_true h1
  exact ⟨this, h2, ⟨rfl, rfl, by simp, Nat.le_refl _, fun _ _ _ => rfl⟩, rfl, rfl⟩
/-- Looking at memory turns nothing. -/
theorem Stp.looked {T : List Nat} (g : Seg s s' T []) (hn : s'.nx = s.nx) (h : Good w0 P G m H W) : Stp w0 P G s s' [] m m H W W :=
  ⟨MExt.refl m, fun _ _ => rfl, fun n b h1 h2 _ => by omega, by
    have : updH H s s' [] = H := by
      funext n
      unfold updH
      rw [if_neg]
      rintro (h | h)
      · cases h
      · omega
    rw [this]; exact h, fun _ _ h _ => h, SameOut.refl _⟩
theorem Good.size (h : Good w0 P G m H W) : w0.heap.size ≤ W.heap.size := by
  rcases Nat.eq_zero_or_pos w0.heap.size with h0 | h0
  · omega
  · have := h.old (w0.heap.size - 1) _ (Array.getElem?_eq_getElem (by omega))
    have := (Array.getElem?_eq_some_iff.1 this).1
    omega
theorem Good.of_heap (h : Good w0 P G m H W) {W' : World} (hw : W'.heap = W.heap) : Good w0 P G m H W' :=
  ⟨fun n o hn hr => by rw [hw]; exact h.obj n o hn hr, h.ro, h.inj, h.glob, fun k ob hk => by rw [hw]; exact h.old k ob hk⟩
theorem live_some {o : AObj} (h : o.isRo = false) : live (some o) = true := by simp [live, h]
theorem look_obj {n : Nat} {o : AObj} (h : look n s = some (o, s')) (hno : o.isRo = false) {T : List Nat} (ha : Agree H s T) (hT : n ∈ T) (hg : Good w0 P G m H W) : ∃ b ob, m n = some b ∧ W.heap[b]? = some ob ∧ OR P m o ob ∧ H n = some o ∧ Sz m n ob := by
  obtain ⟨hlt, ho, _⟩ := look_spec h
  have hH : H n = some o := by rw [ha n hT hlt]; exact ho
  obtain ⟨b, ob, h1, h2, h3, h4, _⟩ := hg.obj n o hH hno
  exact ⟨b, ob, h1, h2, h3, hH, h4⟩
theorem look_ro {n : Nat} {cs : List AV} (h : look n s = some (.ro cs, s')) {T : List Nat} (ha : Agree H s T) (hT : n ∈ T) (hg : Good w0 P G m H W) : ∃ b c el fr, m n = some b ∧ W.heap[b]? = some (.cells c el fr) ∧ cs.length ≤ c.size ∧ LR m cs (c.toList.take cs.length) := by
  obtain ⟨hlt, ho, _⟩ := look_spec h
  have hH : H n = some (.ro cs) := by rw [ha n hT hlt]; exact ho
  obtain ⟨b, c, el, fr, h1, h2, h3, h4⟩ := hg.ro n cs hH
  exact ⟨b, c, el, fr, h1, hg.old b _ h2, h3, h4⟩

theorem putO_spec {n : Nat} {o : Option AObj} (h : putO n o s = some s') : n < s.nx ∧ Seg s s' [n] [n] ∧ s'.nx = s.nx ∧ (∀ k, s'.H k = if k = n then o else s.H k) := by
  unfold putO at h
  obtain ⟨h1, h⟩ := rec_some h
  have h2 := fT_some h
  cases h2
  have hlt := Nat.le_of_ble_eq_true h1
  have hH : ∀ k, (St.H ⟨s.h.set o (pt n), s.nx, n :: s.lg, n :: s.wl⟩) k = if k = n then o else s.H k := by
    intro k
    show Tri.get (pt k) (Tri.set o (pt n) s.h) = _
    by_cases hk : k = n
    · subst hk; rw [if_pos rfl, Tri.set_same]
    · rw [if_neg hk, Tri.set_other _ _ _ _ (fun e => hk (pt_inj e).symm)]; rfl
  refine ⟨hlt, ⟨rfl, rfl, by intro k hk; simp at hk; subst hk; exact ⟨by simp, hlt⟩, Nat.le_refl _, fun k hk _ => ?_⟩, rfl, hH⟩
  rw [hH]
  rw [if_neg (by simpa using hk)]
/-- One block is written over. -/
theorem Stp.put {n b : Nat} {o : Option AObj} (h : putO n o s = some s') (hg : Good w0 P G m H W) (hH : live (H n) = true) (hm : m n = some b) {W' : World}
    (hsame : ∀ k, k ≠ b → W'.heap[k]? = W.heap[k]?) (ho : ∀ x, o = some x → ∃ ob, W'.heap[b]? = some ob ∧ OR P m x ob ∧ Sz m n ob) (hrest : SameOut W W' := by exact ⟨rfl, rfl, rfl⟩) (hno : ∀ x, o = some x → x.isRo = false := by exact fun x hx => by cases hx <;> rfl) : Stp w0 P G s s' [n] m m H W W' := by
  obtain ⟨hlt, hseg, hnx, hs'⟩ := putO_spec h
  have hu : ∀ k, updH H s s' [n] k = if k = n then o else H k := by
    intro k
    unfold updH
    by_cases hk : k = n
    · subst hk; rw [if_pos (.inl (by simp)), if_pos rfl, hs', if_pos rfl]
    · rw [if_neg, if_neg hk]
      rintro (h | h)
      · simp at h; exact hk h
      · omega
  have hhi : w0.heap.size ≤ b := by
    cases hx : H n with
    | none => rw [hx] at hH; cases hH
    | some x =>
      rw [hx] at hH
      obtain ⟨c, ob, h1, _, _, _, h5⟩ := hg.obj n x hx (by simpa [live] using hH)
      rw [hm] at h1; cases h1; exact h5
  refine ⟨MExt.refl m, fun _ _ => rfl, fun k c h1 h2 _ => by omega, ⟨fun k x hx hro => ?_, fun k cs hx => ?_, fun k k' c h1 h2 h3 h4 => ?_, hg.glob, fun k ob hk => ?_⟩, fun c ob hc hne => ?_, hrest⟩
  · rw [hu] at hx
    by_cases hk : k = n
    · subst hk
      rw [if_pos rfl] at hx
      obtain ⟨ob, h1, h2, h3⟩ := ho x hx
      exact ⟨b, ob, hm, h1, h2, h3, hhi⟩
    · rw [if_neg hk] at hx
      obtain ⟨c, ob, h1, h2, h3, h4, h5⟩ := hg.obj k x hx hro
      have hcb : c ≠ b := fun e => hk (hg.inj k n c (by rw [hx]; exact live_some hro) hH h1 (by rw [hm, e]))
      exact ⟨c, ob, h1, by rw [hsame c hcb]; exact h2, h3, h4, h5⟩
  · rw [hu] at hx
    by_cases hk : k = n
    · subst hk
      rw [if_pos rfl] at hx
      have := hno _ hx
      cases this
    · rw [if_neg hk] at hx
      exact hg.ro k cs hx
  · have hx : ∀ j, live (updH H s s' [n] j) = true → live (H j) = true := by
      intro j hj
      rw [hu] at hj
      by_cases hjn : j = n
      · rw [hjn]; exact hH
      · rw [if_neg hjn] at hj; exact hj
    exact hg.inj k k' c (hx k h1) (hx k' h2) h3 h4
  · have hlt : k < w0.heap.size := (Array.getElem?_eq_some_iff.1 hk).1
    rw [hsame k (by omega)]
    exact hg.old k ob hk
  · have : c ≠ b := fun e => hne n (by simp) hlt (by rw [hm, e])
    rw [hsame c this]; exact hc
theorem allocO_spec {o : AObj} {n : Nat} (h : allocO o s = some (n, s')) : n = s.nx ∧ Seg s s' [] [] ∧ s'.nx = s.nx + 1 ∧ (∀ k, s'.H k = if k = n then some o else s.H k) := by
  unfold allocO at h
  rw [fN_eq] at h
  have h2 := fT_some h
  cases h2
  have hH : ∀ k, (St.H ⟨s.h.set (some o) (pt s.nx), s.nx + 1, s.lg, s.wl⟩) k = if k = s.nx then some o else s.H k := by
    intro k
    show Tri.get (pt k) (Tri.set (some o) (pt s.nx) s.h) = _
    by_cases hk : k = s.nx
    · subst hk; rw [if_pos rfl, Tri.set_same]
    · rw [if_neg hk, Tri.set_other _ _ _ _ (fun e => hk (pt_inj e).symm)]; rfl
  refine ⟨rfl, ⟨rfl, rfl, by simp, Nat.le_succ _, fun k _ hk => ?_⟩, rfl, hH⟩
  rw [hH, if_neg (by omega)]
/-- The telling goes on: n is told by b. -/
def mSet (m : Tl) (n b C : Nat) : Tl := ⟨fun k => if k = n then some b else m k, fun k => if k = n then C else m.c k⟩
theorem mSet_at (m : Tl) (n b C k : Nat) : mSet m n b C k = if k = n then some b else m k := rfl
theorem mSet_ext {n b C : Nat} (h : m n = none) : MExt m (mSet m n b C) := fun k c hk => by
  have e : k ≠ n := fun e => by subst e; rw [h] at hk; cases hk
  exact ⟨by rw [mSet_at, if_neg e]; exact hk, if_neg e⟩
theorem mSet_same (m : Tl) (n b C : Nat) : mSet m n b C n = some b := by rw [mSet_at, if_pos rfl]
theorem mSet_c (m : Tl) (n b C : Nat) : (mSet m n b C).c n = C := if_pos rfl
theorem Sz.mono {m m' : Tl} {n b : Nat} {ob : Obj} (h : Sz m n ob) (he : MExt m m') (hb : m n = some b) : Sz m' n ob := fun c el fr e => by rw [(he n b hb).2]; exact h c el fr e
/-- A new block. -/
theorem Stp.alloc {o : AObj} {n : Nat} (h : allocO o s = some (n, s')) (hg : Good w0 P G m H W) (hf : Fresh m s s') {W' : World} {ob : Obj} (C : Nat)
    (hnew : W'.heap[W.heap.size]? = some ob) (hsame : ∀ k, k < W.heap.size → W'.heap[k]? = W.heap[k]?) (ho : OR P (mSet m n W.heap.size C) o ob) (hz : Sz (mSet m n W.heap.size C) n ob) (hrest : SameOut W W' := by exact ⟨rfl, rfl, rfl⟩) (hno : o.isRo = false := by rfl) : Stp w0 P G s s' [] m (mSet m n W.heap.size C) H W W' := by
  obtain ⟨rfl, hseg, hnx, hs'⟩ := allocO_spec h
  have hm0 : m s.nx = none := hf s.nx (Nat.le_refl _) (by omega)
  have hext := mSet_ext (b := W.heap.size) (C := C) hm0
  have hu : ∀ k, updH H s s' [] k = if k = s.nx then some o else H k := by
    intro k
    unfold updH
    by_cases hk : k = s.nx
    · subst hk; rw [if_pos (.inr ⟨Nat.le_refl _, by omega⟩), if_pos rfl, hs', if_pos rfl]
    · rw [if_neg, if_neg hk]
      rintro (h | h)
      · cases h
      · omega
  have hold : ∀ k x, H k = some x → x.isRo = false → ∃ c ob, m k = some c ∧ W.heap[c]? = some ob ∧ OR P m x ob ∧ c < W.heap.size ∧ Sz m k ob ∧ w0.heap.size ≤ c := fun k x hx hro => by
    obtain ⟨c, ob, h1, h2, h3, h5, h6⟩ := hg.obj k x hx hro
    exact ⟨c, ob, h1, h2, h3, (Array.getElem?_eq_some_iff.1 h2).1, h5, h6⟩
  refine ⟨hext, fun k hk => ?_, fun k c h1 h2 hc => ?_, ⟨fun k x hx hro => ?_, fun k cs hx => ?_, fun k k' c h1 h2 h3 h4 => ?_, fun g hgl => (hext g g (hg.glob g hgl)).1, fun k ob' hk => ?_⟩, fun c ob' hc _ => ?_, hrest⟩
  · rw [mSet_at, if_neg (by omega)]
  · have : k = s.nx := by omega
    subst this
    rw [mSet_same] at hc
    cases hc
    exact .inl (Array.getElem?_eq_none (Nat.le_refl _))
  · rw [hu] at hx
    by_cases hk : k = s.nx
    · subst hk
      rw [if_pos rfl] at hx
      cases hx
      exact ⟨W.heap.size, ob, mSet_same _ _ _ _, hnew, ho, hz, hg.size⟩
    · rw [if_neg hk] at hx
      obtain ⟨c, ob', h1, h2, h3, h4, h5, h6⟩ := hold k x hx hro
      exact ⟨c, ob', (hext _ _ h1).1, by rw [hsame c h4]; exact h2, h3.mono hext, h5.mono hext h1, h6⟩
  · rw [hu] at hx
    by_cases hk : k = s.nx
    · subst hk
      rw [if_pos rfl] at hx
      cases hx
      cases hno
    · rw [if_neg hk] at hx
      obtain ⟨b, c, el, fr, h1, h2, h3, h4⟩ := hg.ro k cs hx
      exact ⟨b, c, el, fr, (hext _ _ h1).1, h2, h3, h4.mono hext⟩
  · have key : ∀ j, live (updH H s s' [] j) = true → mSet m s.nx W.heap.size C j = some c → (j = s.nx ∧ c = W.heap.size) ∨ (j ≠ s.nx ∧ live (H j) = true ∧ m j = some c ∧ c < W.heap.size) := by
      intro j hj hc
      rw [hu] at hj
      by_cases e : j = s.nx
      · subst e; rw [mSet_same] at hc; cases hc; exact .inl ⟨rfl, rfl⟩
      · rw [if_neg e] at hj
        rw [mSet_at, if_neg e] at hc
        cases hx : H j with
        | none => rw [hx] at hj; cases hj
        | some x =>
          rw [hx] at hj
          obtain ⟨c', ob', q1, q2, q3, q4, _⟩ := hold j x hx (by simpa [live] using hj)
          rw [hc] at q1; cases q1
          exact .inr ⟨e, hj, hc, q4⟩
    rcases key k h1 h3 with ⟨rfl, e1⟩ | ⟨e1, a1, b1, c1⟩ <;> rcases key k' h2 h4 with ⟨rfl, e2⟩ | ⟨e2, a2, b2, c2⟩
    · rfl
    · omega
    · omega
    · exact hg.inj k k' c a1 a2 b1 b2
  · have hW := hg.old k ob' hk
    have : k < W.heap.size := (Array.getElem?_eq_some_iff.1 hW).1
    rw [hsame k this]; exact hW
  · have : c < W.heap.size := (Array.getElem?_eq_some_iff.1 hc).1
    rw [hsame c this]; exact hc
/-- A block is given up, and a new name told by it. -/
theorem Stp.move {n0 n b : Nat} {o : AObj} {s1 : St} (h0 : putO n0 none s = some s1) (h : allocO o s1 = some (n, s')) (hg : Good w0 P G m H W) (hH : live (H n0) = true) (hm : m n0 = some b) (hf : Fresh m s s') {W' : World} {ob : Obj} (C : Nat)
    (hnew : W'.heap[b]? = some ob) (hsame : ∀ k, k ≠ b → W'.heap[k]? = W.heap[k]?) (ho : OR P (mSet m n b C) o ob) (hz : Sz (mSet m n b C) n ob) (hrest : SameOut W W' := by exact ⟨rfl, rfl, rfl⟩) (hno : o.isRo = false := by rfl) : Stp w0 P G s s' [n0] m (mSet m n b C) H W W' := by
  obtain ⟨hlt, hseg0, hnx0, hs0⟩ := putO_spec h0
  obtain ⟨rfl, hseg, hnx, hs'⟩ := allocO_spec h
  rw [hnx0] at hs' hnx ho hz ⊢
  have hm0 : m s.nx = none := hf s.nx (Nat.le_refl _) (by omega)
  have hext := mSet_ext (b := b) (C := C) hm0
  have hhi : w0.heap.size ≤ b := by
    cases hx : H n0 with
    | none => rw [hx] at hH; cases hH
    | some x =>
      rw [hx] at hH
      obtain ⟨c, ob, h1, _, _, _, h5⟩ := hg.obj n0 x hx (by simpa [live] using hH)
      rw [hm] at h1; cases h1; exact h5
  have hu : ∀ k, updH H s s' [n0] k = if k = s.nx then some o else if k = n0 then none else H k := by
    intro k
    unfold updH
    by_cases hk : k = s.nx
    · subst hk; rw [if_pos (.inr ⟨Nat.le_refl _, by omega⟩), if_pos rfl, hs', if_pos rfl]
    · rw [if_neg hk]
      by_cases hk0 : k = n0
      · subst hk0; rw [if_pos (.inl (by simp)), if_pos rfl, hs', if_neg hk, hs0, if_pos rfl]
      · rw [if_neg, if_neg hk0]
        rintro (h | h)
        · simp at h; exact hk0 h
        · omega
  refine ⟨hext, fun k hk => ?_, fun k c h1 h2 hc => ?_, ⟨fun k x hx hro => ?_, fun k cs hx => ?_, fun k k' c h1 h2 h3 h4 => ?_, fun g hgl => (hext g g (hg.glob g hgl)).1, fun k ob' hk => ?_⟩, fun c ob' hc hne => ?_, hrest⟩
  · rw [mSet_at, if_neg (by omega)]
  · have : k = s.nx := by omega
    subst this
    rw [mSet_same] at hc
    cases hc
    exact .inr ⟨n0, by simp, hlt, hm⟩
  · rw [hu] at hx
    by_cases hk : k = s.nx
    · subst hk
      rw [if_pos rfl] at hx
      cases hx
      exact ⟨b, ob, mSet_same _ _ _ _, hnew, ho, hz, hhi⟩
    · rw [if_neg hk] at hx
      by_cases hk0 : k = n0
      · rw [if_pos hk0] at hx; cases hx
      · rw [if_neg hk0] at hx
        obtain ⟨c, ob', h1, h2, h3, h5, h6⟩ := hg.obj k x hx hro
        have hcb : c ≠ b := fun e => hk0 (hg.inj k n0 c (by rw [hx]; exact live_some hro) hH h1 (by rw [hm, e]))
        exact ⟨c, ob', (hext _ _ h1).1, by rw [hsame c hcb]; exact h2, h3.mono hext, h5.mono hext h1, h6⟩
  · rw [hu] at hx
    by_cases hk : k = s.nx
    · subst hk
      rw [if_pos rfl] at hx
      cases hx
      cases hno
    · rw [if_neg hk] at hx
      by_cases hk0 : k = n0
      · rw [if_pos hk0] at hx; cases hx
      · rw [if_neg hk0] at hx
        obtain ⟨b', c, el, fr, h1, h2, h3, h4⟩ := hg.ro k cs hx
        exact ⟨b', c, el, fr, (hext _ _ h1).1, h2, h3, h4.mono hext⟩
  · have key : ∀ j, live (updH H s s' [n0] j) = true → mSet m s.nx b C j = some c → (j = s.nx ∧ c = b) ∨ (j ≠ s.nx ∧ j ≠ n0 ∧ live (H j) = true ∧ m j = some c) := by
      intro j hj hc
      rw [hu] at hj
      by_cases e : j = s.nx
      · subst e; rw [mSet_same] at hc; cases hc; exact .inl ⟨rfl, rfl⟩
      · rw [if_neg e] at hj
        rw [mSet_at, if_neg e] at hc
        by_cases e0 : j = n0
        · rw [if_pos e0] at hj; cases hj
        · rw [if_neg e0] at hj
          exact .inr ⟨e, e0, hj, hc⟩
    rcases key k h1 h3 with ⟨rfl, e1⟩ | ⟨e1, z1, a1, b1⟩ <;> rcases key k' h2 h4 with ⟨rfl, e2⟩ | ⟨e2, z2, a2, b2⟩
    · rfl
    · exact absurd (hg.inj k' n0 c a2 hH b2 (by rw [hm, e1])) z2
    · exact absurd (hg.inj k n0 c a1 hH b1 (by rw [hm, e2])) z1
    · exact hg.inj k k' c a1 a2 b1 b2
  · have hlt' : k < w0.heap.size := (Array.getElem?_eq_some_iff.1 hk).1
    rw [hsame k (by omega)]
    exact hg.old k ob' hk
  · have : c ≠ b := fun e => hne n0 (by simp) hlt (by rw [hm, e])
    rw [hsame c this]; exact hc
end
/-! ### The model's cells -/
section
variable {w0 : World} {P : Program}
theorem cell_of {W : World} {b i : Nat} {c : Array Value} {el : TypeId} {fr : Nat × Nat} (h : W.heap[b]? = some (.cells c el fr)) : W.cell? ⟨b, i, none⟩ = c[i]? := by
  simp [World.cell?, h]
theorem frozen_of {W : World} {b i : Nat} {c : Array Value} {el : TypeId} {lo hi : Nat} (h : W.heap[b]? = some (.cells c el (lo, hi))) : W.frozen? ⟨b, i, none⟩ = (decide (lo ≤ i) && decide (i < hi)) := by
  simp [World.frozen?, h]
theorem addr_add (b off i : Nat) : (⟨b, off, none⟩ : Addr).add i = ⟨b, off + i, none⟩ := by
  unfold Addr.add
  split
  · subst_vars; rfl
  · rfl
theorem run_loadCellsFrom_rk {W : World} {b off : Nat} {c : Array Value} {el : TypeId} {fr : Nat × Nat} (h : W.heap[b]? = some (.cells c el fr)) : ∀ (n i : Nat) (acc : Array Value), off + i + n ≤ c.size →
    (loadCellsFrom ⟨b, off, none⟩ i n acc).run P W = .ok ⟨acc.toList ++ (c.toList.drop (off + i)).take n⟩ W := by
  intro n
  induction n with
  | zero => intro i acc hle; simp [loadCellsFrom]
  | succ n ih =>
    intro i acc hle
    have hlt : off + i < c.size := by omega
    simp only [loadCellsFrom, addr_add, Sem.run_bind, run_load, cell_of h, Array.getElem?_eq_getElem hlt, Result.andThen_ok]
    rw [ih (i + 1) _ (by omega)]
    congr 2
    simp only [Array.toList_push, List.append_assoc]
    congr 1
    have hd : c.toList.drop (off + i) = c[off + i] :: c.toList.drop (off + i + 1) := by
      rw [List.drop_eq_getElem_cons (by simpa using hlt)]; simp
    rw [hd, List.take_succ_cons]
    rfl
theorem run_loadCells_rk {W : World} {b off : Nat} {c : Array Value} {el : TypeId} {fr : Nat × Nat} (h : W.heap[b]? = some (.cells c el fr)) {n : Nat} (hle : off + n ≤ c.size) :
    (loadCells ⟨b, off, none⟩ n).run P W = .ok ⟨(c.toList.drop off).take n⟩ W := by
  unfold loadCells
  rw [run_loadCellsFrom_rk h n 0 #[] (by omega)]
  simp
theorem setCell_heap {W : World} {b i : Nat} {c : Array Value} {el : TypeId} {fr : Nat × Nat} (h : W.heap[b]? = some (.cells c el fr)) (v : Value) :
    (W.setCell ⟨b, i, none⟩ v).heap[b]? = some (.cells (c.setIfInBounds i v) el fr) ∧ (∀ k, k ≠ b → (W.setCell ⟨b, i, none⟩ v).heap[k]? = W.heap[k]?) := by
  obtain ⟨hlt, hb⟩ := Array.getElem?_eq_some_iff.1 h
  constructor
  · show (W.heap.modify b _)[b]? = _
    rw [Array.getElem?_eq_getElem (by rw [Array.size_modify]; exact hlt), Array.getElem_modify_self, hb]
    rfl
  · intro k hk
    show (W.heap.modify b _)[k]? = _
    rw [Array.getElem?_modify]
    rw [if_neg (Ne.symm hk)]
theorem ow_length {α : Type} : ∀ (vs cs : List α) (off : Nat), (ow vs cs off).length = cs.length
  | [], _, _ => rfl
  | v :: vs, cs, off => by simp [ow, ow_length vs]
theorem run_storeCells_rk {b off : Nat} {el : TypeId} {lo hi : Nat} : ∀ (vs : List Value) (i : Nat) (W : World) (c : Array Value), W.heap[b]? = some (.cells c el (lo, hi)) → off + i + vs.length ≤ c.size →
    (∀ v ∈ vs, v.oneCell' = true) → (∀ k, k < c.size → ¬ (lo ≤ k ∧ k < hi)) →
    ∃ W', (storeCells ⟨b, off, none⟩ vs i).run P W = .ok () W' ∧ W'.heap[b]? = some (.cells ⟨ow vs c.toList (off + i)⟩ el (lo, hi)) ∧ (∀ k, k ≠ b → W'.heap[k]? = W.heap[k]?) ∧ SameOut W W'
  | [], i, W, c, h, _, _, _ => ⟨W, rfl, h, fun _ _ => rfl, SameOut.refl _⟩
  | v :: vs, i, W, c, h, hle, h1, hf => by
    simp only [List.length_cons] at hle
    have hlt : off + i < c.size := by omega
    obtain ⟨g1, g2⟩ := setCell_heap h (i := off + i) v
    obtain ⟨W', r1, r2, r3, r4⟩ := run_storeCells_rk (b := b) (off := off) vs (i + 1) (W.setCell ⟨b, off + i, none⟩ v) (c.setIfInBounds (off + i) v) g1 (by simpa using by omega) (fun u hu => h1 u (List.mem_cons_of_mem _ hu)) (fun k hk => hf k (by simpa using hk))
    refine ⟨W', ?_, ?_, fun k hk => (r3 k hk).trans (g2 k hk), SameOut.trans ⟨rfl, rfl, rfl⟩ r4⟩
    · have hfr : W.frozen? ⟨b, off + i, none⟩ = false := by
        rw [frozen_of h]
        have := hf _ hlt
        rw [Bool.and_eq_false_iff, decide_eq_false_iff_not, decide_eq_false_iff_not]
        by_cases hl : lo ≤ off + i
        · exact .inr (fun e => this ⟨hl, e⟩)
        · exact .inl hl
      simp only [storeCells, addr_add, Sem.run_bind, run_store P _ _ _ _ (h1 v (by simp)), cell_of h, Array.getElem?_eq_getElem hlt, hfr, Bool.false_eq_true, if_false, Result.andThen_ok]
      exact r1
    · rw [r2]
      simp [ow, Nat.add_assoc]
end
end Go.Proofs.Ytonckpblbdopmaa.Rk
