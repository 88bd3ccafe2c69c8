/-
  A range over a function whose iterator keeps state of its own: what comes at the k-th round is known ahead. Said of any program.
-/
import Derived.RangeFuncNested
import Derived.RangeFuncLeaves
namespace Go.Proofs.Ytaklfjjkeebheaa
set_option linter.unusedVariables false
open Go Go.RowKit
/-- What an iterator may turn: walks of its own. -/
def AbidesW (B : Nat) (J : World → Prop) : Prop := ∀ W W' row, J W → W.grownBy W' row → (∀ r, row = some r → B ≤ r ∧ ∃ o : Obj, W.heap[r]? = some o ∧ o.isWalk = true) → J W'
/-- The iterator calls yield N times, the k-th time with encs k. -/
def SeqRuns (F : Fence) (n : Nat) (P : Program) (g : Nat) (lb : Array Value) (encs : Nat → Array Value) (N : Nat) (Kp : World → World → Prop) (w : World) : Prop :=
  ∀ (l : Nat) (J : Nat → World → Prop) (W : World), Below w.heap.size w W → (∀ k, AbidesW W.heap.size (J k)) →
    (∀ k W1, J k W1 → k < N → YieldAt F (n - 1) P l (encs k) W1 fun e W' => e = .returned (.bool true) ∧ J (k + 1) W' ∧ Kp W1 W') →
    J 0 W → CallsIn F n P g (#[.func (.yield l) #[] #[]] ++ lb) W fun e W' => (∃ v, e = .returned v) ∧ J N W'
/-- How a round's body ends: it goes on. -/
def goesOn (B : Nat) (Kp : World → World → Prop) (I : World → Prop) (W : World) : Exit → Act → World → Prop
  | .normal, _, W' => KeepsFrom B W W' ∧ Kp W W' ∧ I W'
  | _, _, _ => False
variable {F : Fence} {n : Nat} {P : Program}
theorem wpIn_range_runs {g : Operand} {ps : Array Tmp} {assign body : Code} {Q : Exit → Act → World → Prop} {a : Act} {w : World}
    (hro : F.round = none) (h1 : 1 ≤ n) {gf : Nat} {lb : Array Value} (hg : a.eval g = .func (.func gf) #[] lb) (hFg : F.fn gf) (eg : ∀ args w, (callFunc gf args).run P w = .ok (.enter gf args) w)
    {encs : Nat → Array Value} {Kp : World → World → Prop} {N : Nat} {w0 : World} (hseq : SeqRuns F (n - 1) P gf lb encs N Kp w0)
    (hKt : ∀ {A B C : World}, Kp A B → Kp B C → Kp A C) (hKb : ∀ (W : World) (l : Nat) (o o' : Obj), w.heap.size ≤ l → W.heap[l]? = some o → o.isCells = false → o.isWalk = false → Kp W (W.putObj l o')) (hb0 : Below w0.heap.size w0 w) (hps : ∀ k, (encs k).size = ps.size)
    (I : Nat → World → Prop) (hI : OwnFrom w.heap.size I) (h0 : I 0 w) (a₁ : Nat → Act)
    (hassign : ∀ (l k : Nat) (W : World) (K : Act → World → Prop), K (a₁ k) W →
      assign.wpIn (F.inRound l) (n - 1 - 1) P (Exit.then K (fun _ _ _ => False)) { tmps := (ps.zip (encs k)).foldl (fun t (p, v) => t.setIfInBounds p v) a.tmps, defers := [] } W)
    (hbody : ∀ (l k : Nat) (W : World), I k W → k < N → body.wpIn (F.inRound l) (n - 1 - 1) P (goesOn w.heap.size Kp (I (k + 1)) W) (a₁ k) W)
    (hdone : ∀ (D : Nat) (W : World), w.heap.size ≤ D → I N W → W.heap[D]? = some (.deferred (some [])) → Q .normal { a with defers := { target := .collected D, args := #[] } :: a.defers } W) :
    (Code.rangeFunc g ps assign body).wpIn F n P Q a w := by
  refine wpIn_rangeFunc fun fn hfn => ?_
  rw [hro]
  -- the two blocks that the loop lays: the deferred calls' (w.heap.size) and its record (behind it)
  generalize hR : (fun st : LoopState => (fun pe : Option Code => ({ state := st, pending := pe, fn, tmps := a.tmps, params := ps, assign, body, defers := w.heap.size } : Loop))) = rc
  have hr0 : rc .ready none = { state := .ready, pending := none, fn, tmps := a.tmps, params := ps, assign, body, defers := w.heap.size } := by rw [← hR]
  generalize hW1 : (w.alloc (.deferred (some []))).alloc (.loop (rc .ready none)) = W1
  have rec1 : W1.heap[w.heap.size + 1]? = some (.loop (rc .ready none)) := by
    have h := World.alloc_heap_new (w.alloc (.deferred (some []))) (.loop (rc .ready none))
    rw [World.size_alloc] at h
    rw [← hW1]; exact h
  have def1 : W1.heap[w.heap.size]? = some (.deferred (some [])) := by
    rw [← hW1]
    exact (Below.heap_alloc _ _ _ (by rw [World.size_alloc]; omega)).trans (World.alloc_heap_new w _)
  have size1 : W1.heap.size = w.heap.size + 2 := by rw [← hW1, World.size_alloc, World.size_alloc]
  have below1 : Below w0.heap.size w0 W1 := by
    rw [← hW1]
    exact hb0.trans ((((Below.refl _ w).alloc (Nat.le_refl _) _).alloc (by simp) _).mono hb0.size)
  refine ⟨w.heap.size + 1, [{ target := .collected w.heap.size, args := #[] }], W1, { target := .fn (.func gf) lb, args := #[.func (.yield (w.heap.size + 1)) #[] #[]] }, W1, gf, #[.func (.yield (w.heap.size + 1)) #[] #[]] ++ lb, W1, ?_, ?_, ?_, ?_, fun _ => h1, ?_⟩
  · rw [← hW1, hr0]; exact run_enterLoop_outer _ _ _ _ _
  · simp only [resolve, hg]; simp [go_sem]
  · intro f' hf'
    simp [Target.leads] at hf'
    subst hf'; exact hFg
  · simp [invoke, go_sem, eg]
  · -- what the iterator carries: the body's own, the record that waits, the deferred calls
    generalize hJ : (fun (k : Nat) (W : World) => I k W ∧ W.heap[w.heap.size + 1]? = some (.loop (rc .ready none)) ∧ W.heap[w.heap.size]? = some (.deferred (some []))) = J
    have toJ : ∀ {k W}, (I k W ∧ W.heap[w.heap.size + 1]? = some (.loop (rc .ready none)) ∧ W.heap[w.heap.size]? = some (.deferred (some []))) → J k W := fun h => by rw [← hJ]; exact h
    have ofJ : ∀ {k W}, J k W → (I k W ∧ W.heap[w.heap.size + 1]? = some (.loop (rc .ready none)) ∧ W.heap[w.heap.size]? = some (.deferred (some []))) := fun h => by rw [← hJ] at h; exact h
    have abides : ∀ k, AbidesW W1.heap.size (J k) := by
      intro k A B row hs hgr hrow
      obtain ⟨h1, h2, h3⟩ := ofJ hs
      have hrow' : ∀ r, row = some r → ∃ o : Obj, A.heap[r]? = some o ∧ o.isWalk = true := fun r e => (hrow r e).2
      refine toJ ⟨hI k A B row h1 hgr (fun r e => ?_), (grownBy_keeps hgr hrow' h2 rfl).trans h2, (grownBy_keeps hgr hrow' h3 rfl).trans h3⟩
      obtain ⟨hB, o, ho, hw⟩ := hrow r e
      exact ⟨by omega, o, ho, Obj.not_cells_of_walk hw⟩
    refine (hseq (w.heap.size + 1) J W1 below1 abides ?_ (toJ ⟨by rw [← hW1]; exact hI.alloc _ (hI.alloc _ h0), rec1, def1⟩)).mono ?_
    · intro k W hs hk
      obtain ⟨s1, s2, s3⟩ := ofJ hs
      have hy := run_yield (P := P) (args := encs k) s2 (by rw [hr0]; exact hps k)
      rw [hr0] at hy
      refine ⟨fn, _, assign, body, hy, roundIn_of_wpIn hfn (hassign _ k W _ ⟨_, run_beginRound s2 (by rw [hr0]), ?_⟩)⟩
      generalize hWb : W.putObj (w.heap.size + 1) (.loop { rc .ready none with state := .busy }) = Wb
      have lt2 : w.heap.size + 1 < W.heap.size := (Array.getElem?_eq_some_iff.1 s2).1
      have recb : Wb.heap[w.heap.size + 1]? = some (.loop { rc .ready none with state := .busy }) := by rw [← hWb]; exact World.putObj_heap_same lt2
      have defb : Wb.heap[w.heap.size]? = some (.deferred (some [])) := by rw [← hWb]; exact (World.putObj_heap_other (by omega)).trans s3
      have kpb : Kp W Wb := by rw [← hWb]; exact hKb _ _ _ _ (by omega) s2 rfl rfl
      have ib : I k Wb := by rw [← hWb]; exact hI.putObj _ s1 (by omega) s2 rfl
      refine wpIn_mono (hbody _ k Wb ib hk) ?_
      intro e a3 W3 hp
      cases e with
      | normal =>
        obtain ⟨k3, kp3, i3⟩ := hp
        have rec3 := k3.same _ _ (by omega) recb rfl
        have def3 := k3.same _ _ (Nat.le_refl _) defb rfl
        have lt3 : w.heap.size + 1 < W3.heap.size := (Array.getElem?_eq_some_iff.1 rec3).1
        have hend := run_endRound (P := P) none rec3
        refine ⟨.bool true, W3.putObj (w.heap.size + 1) (.loop (rc .ready none)), ?_, rfl, toJ ⟨hI.putObj _ i3 (by omega) rec3 rfl, World.putObj_heap_same lt3, (World.putObj_heap_other (by omega)).trans def3⟩, hKt (hKt kpb kp3) (hKb _ _ _ _ (by omega) rec3 rfl rfl)⟩
        rw [hr0] at hend ⊢
        exact hend
      | _ => exact hp.elim
    · rintro e W2 ⟨⟨v, rfl⟩, hs⟩
      obtain ⟨s1, s2, s3⟩ := ofJ hs
      have hend := run_endLoop (P := P) s2 (by rw [hr0]; simp)
      refine ⟨none, W2.putObj (w.heap.size + 1) (.loop { rc .ready none with state := .exhausted }), ?_, hdone _ _ (Nat.le_refl _) (hI.putObj _ s1 (by omega) s2 rfl) ((World.putObj_heap_other (by omega)).trans s3)⟩
      rw [hr0] at hend ⊢
      exact hend
/-- What a round keeps: what lay below, and the walks. -/
def KeepBW (n₀ : Nat) (W W' : World) : Prop := Below n₀ W W' ∧ KeepsWalks W W'
theorem keepBW_t {n₀ : Nat} {A B C : World} (h : KeepBW n₀ A B) (k : KeepBW n₀ B C) : KeepBW n₀ A C := ⟨h.1.trans k.1, h.2.trans k.2⟩
theorem keepBW_b {n₀ : Nat} {w : World} (hn : n₀ ≤ w.heap.size) (W : World) (l : Nat) (o o' : Obj) (hl : w.heap.size ≤ l) (h : W.heap[l]? = some o) (hc : o.isCells = false) (hw : o.isWalk = false) : KeepBW n₀ W (W.putObj l o') := ⟨belowK_b hn W l o o' hl h hc hw, KeepsWalks.putObj _ h hw⟩
end Go.Proofs.Ytaklfjjkeebheaa
