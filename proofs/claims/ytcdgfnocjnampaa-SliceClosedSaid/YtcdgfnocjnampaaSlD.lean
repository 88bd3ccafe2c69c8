/-
  What is kept of attempts, plainly: the writer of a version, what one asks, all that is reached. Nothing of the program.
-/
import Derived.Test.YtcdgfnocjnampaaHiD
namespace Go.Proofs.Ytcdgfnocjnampaa
set_option linter.unusedVariables false
set_option linter.unusedSimpArgs false
set_option linter.unusedVariables false

def wroteB (a : Att) (v : Int) : Bool := a.writes.any fun p => p.1 == v
/-- A writer of a variable, up to a version. -/
def candB (a : Att) (v most : Int) : Bool := decide (0 < a.wv) && decide (a.wv ≤ most) && wroteB a v
/-- The writer among the first k. -/
def writerK (L : List Att) (v most : Int) : Nat → Int
  | 0 => -1
  | k + 1 => if (candB (L.getD k Att.zero) v most && (decide (writerK L v most k < 0) || decide ((L.getD (writerK L v most k).toNat Att.zero).wv < (L.getD k Att.zero).wv))) = true then (k : Int) else writerK L v most k
def writerL (L : List Att) (v most : Int) : Int := writerK L v most L.length
/-- What it is. -/
def IsWriter (L : List Att) (v most : Int) (k : Nat) (w : Int) : Prop :=
  (w = -1 ∧ ∀ i, i < k → candB (L.getD i Att.zero) v most = false) ∨
  (0 ≤ w ∧ w < k ∧ candB (L.getD w.toNat Att.zero) v most = true ∧ ∀ i, i < k → candB (L.getD i Att.zero) v most = true → (L.getD i Att.zero).wv < (L.getD w.toNat Att.zero).wv ∨ ((L.getD i Att.zero).wv = (L.getD w.toNat Att.zero).wv ∧ w ≤ i))
theorem writerK_is (L : List Att) (v most : Int) : ∀ k, IsWriter L v most k (writerK L v most k)
  | 0 => .inl ⟨rfl, fun i hi => absurd hi (Nat.not_lt_zero _)⟩
  | k + 1 => by
    have ih := writerK_is L v most k
    unfold writerK
    generalize writerK L v most k = w at ih ⊢
    by_cases hc : candB (L.getD k Att.zero) v most = true
    · rcases ih with ⟨rfl, h⟩ | ⟨h1, h2, h3, h4⟩
      · rw [if_pos (by rw [hc]; simp)]
        refine .inr ⟨by omega, by omega, by rw [Int.toNat_natCast]; exact hc, fun i hi h' => ?_⟩
        rw [Int.toNat_natCast]
        by_cases he : i = k
        · subst he; exact .inr ⟨rfl, Int.le_refl _⟩
        · rw [h i (by omega)] at h'; cases h'
      · by_cases hg : (L.getD w.toNat Att.zero).wv < (L.getD k Att.zero).wv
        · rw [if_pos (by rw [hc, decide_eq_true hg]; simp)]
          refine .inr ⟨by omega, by omega, by rw [Int.toNat_natCast]; exact hc, fun i hi h' => ?_⟩
          rw [Int.toNat_natCast]
          by_cases he : i = k
          · subst he; exact .inr ⟨rfl, Int.le_refl _⟩
          · have := h4 i (by omega) h'
            exact .inl (by omega)
        · rw [if_neg (by rw [hc, decide_eq_false hg, decide_eq_false (show ¬ w < 0 by omega)]; simp)]
          refine .inr ⟨h1, by omega, h3, fun i hi h' => ?_⟩
          by_cases he : i = k
          · subst he
            omega
          · exact h4 i (by omega) h'
    · rw [Bool.not_eq_true] at hc
      rw [if_neg (by rw [hc]; simp)]
      rcases ih with ⟨rfl, h⟩ | ⟨h1, h2, h3, h4⟩
      · refine .inl ⟨rfl, fun i hi => ?_⟩
        by_cases he : i = k
        · subst he; exact hc
        · exact h i (by omega)
      · refine .inr ⟨h1, by omega, h3, fun i hi h' => ?_⟩
        by_cases he : i = k
        · subst he; rw [hc] at h'; cases h'
        · exact h4 i (by omega) h'
theorem writerL_is (L : List Att) (v most : Int) : IsWriter L v most L.length (writerL L v most) := writerK_is L v most L.length
theorem isWriter_one {L : List Att} {v most : Int} {k : Nat} {a b : Int} (ha : IsWriter L v most k a) (hb : IsWriter L v most k b) : a = b := by
  rcases ha with ⟨rfl, h⟩ | ⟨h1, h2, h3, h4⟩
  · rcases hb with ⟨rfl, _⟩ | ⟨g1, g2, g3, _⟩
    · rfl
    · rw [h b.toNat (by omega)] at g3; cases g3
  · rcases hb with ⟨rfl, g⟩ | ⟨g1, g2, g3, g4⟩
    · rw [g a.toNat (by omega)] at h3; cases h3
    · have e1 := h4 b.toNat (by omega) g3
      have e2 := g4 a.toNat (by omega) h3
      omega
theorem isWriter_lt {L : List Att} {v most w : Int} (h : IsWriter L v most L.length w) (hw : 0 ≤ w) : w.toNat < L.length := by
  rcases h with ⟨rfl, _⟩ | ⟨h1, h2, _⟩ <;> omega
def topK (L : List Att) : Nat → Int
  | 0 => 0
  | k + 1 => max (topK L k) (L.getD k Att.zero).wv
def topL (L : List Att) : Int := topK L L.length
theorem topK_ge (L : List Att) : ∀ k i, i < k → (L.getD i Att.zero).wv ≤ topK L k
  | 0, i, h => absurd h (Nat.not_lt_zero _)
  | k + 1, i, h => by
    unfold topK
    by_cases he : i = k
    · subst he; omega
    · have := topK_ge L k i (by omega); omega
theorem topK_nonneg (L : List Att) : ∀ k, 0 ≤ topK L k
  | 0 => Int.le_refl _
  | k + 1 => by unfold topK; have := topK_nonneg L k; omega
/-- By variables: who is kept of himself. -/
def rootsV (L : List Att) (vars : List Int) : List Nat := vars.filterMap fun v => if 0 ≤ writerL L v (topL L) then some (writerL L v (topL L)).toNat else none
def openB (a : Att) : Bool := decide (0 < a.wv) && decide (a.to_ = -1)
def rootsO (L : List Att) : List Nat := (List.range L.length).filter fun i => openB (L.getD i Att.zero)
def roots (L : List Att) (vars : List Int) : List Nat := rootsV L vars ++ rootsO L
/-- What one asks. -/
def askedR (L : List Att) (a : Att) : List Nat := a.reads.filterMap fun p => if 0 ≤ writerL L p.1 a.rv then some (writerL L p.1 a.rv).toNat else none
def beforeB (a b : Att) : Bool := b.com && decide (b.th = a.th) && decide (b.tx < a.tx)
def askedT (L : List Att) (a : Att) : List Nat := (List.range L.length).filter fun i => beforeB a (L.getD i Att.zero)
def asked (L : List Att) (a : Att) : List Nat := askedR L a ++ askedT L a
theorem asked_lt {L : List Att} {a : Att} {j : Nat} (h : j ∈ asked L a) : j < L.length := by
  rcases List.mem_append.1 h with h | h
  · obtain ⟨p, _, hp⟩ := List.mem_filterMap.1 h
    split at hp
    · cases hp; exact isWriter_lt (writerL_is L p.1 a.rv) (by assumption)
    · cases hp
  · exact List.mem_range.1 (List.mem_filter.1 h).1
theorem roots_lt {L : List Att} {vars : List Int} {j : Nat} (h : j ∈ roots L vars) : j < L.length := by
  rcases List.mem_append.1 h with h | h
  · obtain ⟨v, _, hp⟩ := List.mem_filterMap.1 h
    split at hp
    · cases hp; exact isWriter_lt (writerL_is L v (topL L)) (by assumption)
    · cases hp
  · exact List.mem_range.1 (List.mem_filter.1 h).1
/-- All that is reached. -/
inductive Reach (L : List Att) (R : Nat → Prop) : Nat → Prop
  | root {i : Nat} : R i → Reach L R i
  | step {i j : Nat} : Reach L R i → j ∈ asked L (L.getD i Att.zero) → Reach L R j
theorem Reach.mono {L : List Att} {R R' : Nat → Prop} (h : ∀ i, R i → Reach L R' i) : ∀ {i}, Reach L R i → Reach L R' i
  | _, .root hr => h _ hr
  | _, .step hi hj => .step (Reach.mono h hi) hj
def SortedN (l : List Nat) : Prop := l.Pairwise (· < ·)
/-- Where one stands, or would stand, in a list that rises. -/
def placeN (l : List Nat) (i : Nat) : Nat := l.countP fun j => decide (j < i)
def insN (l : List Nat) (i : Nat) : List Nat := l.take (placeN l i) ++ i :: l.drop (placeN l i)
theorem placeN_le (l : List Nat) (i : Nat) : placeN l i ≤ l.length := List.countP_le_length
theorem placeN_cons (x : Nat) (l : List Nat) (i : Nat) : placeN (x :: l) i = placeN l i + if x < i then 1 else 0 := by
  unfold placeN
  rw [List.countP_cons]
  simp
theorem placeN_zero {l : List Nat} {x i : Nat} (h : SortedN (x :: l)) (hx : ¬ x < i) : placeN (x :: l) i = 0 := by
  unfold placeN
  rw [List.countP_eq_zero]
  intro j hj
  rcases List.mem_cons.1 hj with rfl | hj
  · simpa using hx
  · have := (List.pairwise_cons.1 h).1 j hj
    simp
    omega
/-- Below its place there is what is less, from it on what is not. -/
theorem placeN_spec : ∀ {l : List Nat} {i : Nat}, SortedN l → (∀ k (h : k < l.length), k < placeN l i → l[k] < i) ∧ (∀ k (h : k < l.length), placeN l i ≤ k → i ≤ l[k])
  | [], i, _ => ⟨fun k h => absurd h (Nat.not_lt_zero _), fun k h => absurd h (Nat.not_lt_zero _)⟩
  | x :: l, i, hs => by
    have hs' := (List.pairwise_cons.1 hs)
    by_cases hx : x < i
    · obtain ⟨h1, h2⟩ := placeN_spec (i := i) hs'.2
      rw [placeN_cons, if_pos hx]
      refine ⟨fun k hk hl => ?_, fun k hk hl => ?_⟩
      · cases k with
        | zero => exact hx
        | succ k => exact h1 k (by simpa using hk) (by omega)
      · cases k with
        | zero => omega
        | succ k => exact h2 k (by simpa using hk) (by omega)
    · rw [placeN_zero hs hx]
      refine ⟨fun k hk hl => absurd hl (Nat.not_lt_zero _), fun k hk _ => ?_⟩
      cases k with
      | zero => show i ≤ x; omega
      | succ k =>
        have := hs'.1 (l[k]'(by simpa using hk)) (List.getElem_mem _)
        show i ≤ l[k]'(by simpa using hk)
        omega
theorem insN_mem {l : List Nat} {i j : Nat} : j ∈ insN l i ↔ j = i ∨ j ∈ l := by
  unfold insN
  rw [List.mem_append, List.mem_cons]
  have : j ∈ l ↔ j ∈ l.take (placeN l i) ∨ j ∈ l.drop (placeN l i) := by
    rw [← List.mem_append, List.take_append_drop]
  rw [this]
  constructor
  · rintro (h | h | h)
    · exact .inr (.inl h)
    · exact .inl h
    · exact .inr (.inr h)
  · rintro (h | h | h)
    · exact .inr (.inl h)
    · exact .inl h
    · exact .inr (.inr h)
theorem insN_len (l : List Nat) (i : Nat) : (insN l i).length = l.length + 1 := by
  unfold insN
  have := placeN_le l i
  rw [List.length_append, List.length_cons, List.length_take, List.length_drop]
  omega
theorem insN_cons_lt {x i : Nat} {l : List Nat} (h : x < i) : insN (x :: l) i = x :: insN l i := by
  unfold insN
  rw [placeN_cons, if_pos h]
  rfl
theorem insN_sorted : ∀ {l : List Nat} {i : Nat}, SortedN l → i ∉ l → SortedN (insN l i)
  | [], i, _, _ => List.pairwise_singleton _ _
  | x :: l, i, hs, hn => by
    have hs' := List.pairwise_cons.1 hs
    by_cases hx : x < i
    · rw [insN_cons_lt hx]
      refine List.pairwise_cons.2 ⟨fun j hj => ?_, insN_sorted hs'.2 (fun h => hn (List.mem_cons_of_mem _ h))⟩
      rcases insN_mem.1 hj with rfl | hj
      · exact hx
      · exact hs'.1 j hj
    · unfold insN
      rw [placeN_zero hs hx]
      refine List.pairwise_cons.2 ⟨fun j hj => ?_, hs⟩
      have hne : i ≠ x := fun e => hn (by rw [e]; exact List.mem_cons_self ..)
      rcases List.mem_cons.1 hj with rfl | hj
      · omega
      · have := hs'.1 j hj; omega
theorem sorted_len' {n : Nat} : ∀ {l : List Nat} {b : Nat}, SortedN l → (∀ i ∈ l, b ≤ i ∧ i < n) → b ≤ n → l.length ≤ n - b
  | [], b, _, _, _ => Nat.zero_le _
  | x :: l, b, hs, hl, hb => by
    have hs' := List.pairwise_cons.1 hs
    have hx := hl x (List.mem_cons_self ..)
    have := sorted_len' (b := x + 1) hs'.2 (fun i hi => ⟨hs'.1 i hi, (hl i (List.mem_cons_of_mem _ hi)).2⟩) (by omega)
    rw [List.length_cons]
    omega
theorem sorted_len {n : Nat} {l : List Nat} (hs : SortedN l) (hl : ∀ i ∈ l, i < n) : l.length ≤ n := sorted_len' (b := 0) hs (fun i hi => ⟨Nat.zero_le _, hl i hi⟩) (Nat.zero_le _)
theorem sorted_ext {l m : List Nat} (hl : SortedN l) (hm : SortedN m) (h : ∀ i, i ∈ l ↔ i ∈ m) : l = m := by
  have p : l.Perm m := (List.perm_ext_iff_of_nodup (hl.imp (fun h => Nat.ne_of_lt h)) (hm.imp (fun h => Nat.ne_of_lt h))).2 h
  exact p.eq_of_pairwise (le := (· < ·)) (fun a b _ _ h1 h2 => absurd h1 (Nat.lt_asymm h2)) hl hm
/-- What holds while one goes over what is to do. -/
structure KeepI (L : List Att) (R : Nat → Prop) (todo out : List Nat) : Prop where
  sorted : SortedN out
  outR : ∀ i ∈ out, Reach L R i
  todoR : ∀ i ∈ todo, Reach L R i
  root : ∀ i, R i → i ∈ out ∨ i ∈ todo
  step : ∀ i ∈ out, ∀ j ∈ asked L (L.getD i Att.zero), j ∈ out ∨ j ∈ todo
theorem KeepI.skip {L : List Att} {R : Nat → Prop} {i : Nat} {todo out : List Nat} (h : KeepI L R (i :: todo) out) (hi : i ∈ out) : KeepI L R todo out where
  sorted := h.sorted
  outR := h.outR
  todoR j hj := h.todoR j (List.mem_cons_of_mem _ hj)
  root j hj := by
    rcases h.root j hj with h1 | h1
    · exact .inl h1
    · rcases List.mem_cons.1 h1 with rfl | h1
      · exact .inl hi
      · exact .inr h1
  step k hk j hj := by
    rcases h.step k hk j hj with h1 | h1
    · exact .inl h1
    · rcases List.mem_cons.1 h1 with rfl | h1
      · exact .inl hi
      · exact .inr h1
theorem KeepI.take {L : List Att} {R : Nat → Prop} {i : Nat} {todo out : List Nat} (h : KeepI L R (i :: todo) out) (hi : i ∉ out) : KeepI L R (todo ++ asked L (L.getD i Att.zero)) (insN out i) where
  sorted := insN_sorted h.sorted hi
  outR j hj := by
    rcases insN_mem.1 hj with rfl | hj
    · exact h.todoR _ (List.mem_cons_self ..)
    · exact h.outR j hj
  todoR j hj := by
    rcases List.mem_append.1 hj with hj | hj
    · exact h.todoR j (List.mem_cons_of_mem _ hj)
    · exact .step (h.todoR _ (List.mem_cons_self ..)) hj
  root j hj := by
    rcases h.root j hj with h1 | h1
    · exact .inl (insN_mem.2 (.inr h1))
    · rcases List.mem_cons.1 h1 with rfl | h1
      · exact .inl (insN_mem.2 (.inl rfl))
      · exact .inr (List.mem_append_left _ h1)
  step k hk j hj := by
    rcases insN_mem.1 hk with rfl | hk
    · exact .inr (List.mem_append_right _ hj)
    · rcases h.step k hk j hj with h1 | h1
      · exact .inl (insN_mem.2 (.inr h1))
      · rcases List.mem_cons.1 h1 with rfl | h1
        · exact .inl (insN_mem.2 (.inl rfl))
        · exact .inr (List.mem_append_left _ h1)
theorem KeepI.done {L : List Att} {R : Nat → Prop} {out : List Nat} (h : KeepI L R [] out) : ∀ i, i ∈ out ↔ Reach L R i := by
  intro i
  constructor
  · exact h.outR i
  · intro hr
    induction hr with
    | root hr =>
      rcases h.root _ hr with h1 | h1
      · exact h1
      · exact absurd h1 (List.not_mem_nil)
    | step _ hj ih =>
      rcases h.step _ ih _ hj with h1 | h1
      · exact h1
      · exact absurd h1 (List.not_mem_nil)
theorem KeepI.start (L : List Att) (vars : List Int) : KeepI L (· ∈ roots L vars) (roots L vars) [] where
  sorted := List.Pairwise.nil
  outR i hi := absurd hi (List.not_mem_nil)
  todoR i hi := .root hi
  root i hi := .inr hi
  step i hi := absurd hi (List.not_mem_nil)
theorem reach_lt {L : List Att} {R : Nat → Prop} (hR : ∀ i, R i → i < L.length) : ∀ {i}, Reach L R i → i < L.length
  | _, .root h => hR _ h
  | _, .step _ h => asked_lt h
/-- K is what is kept. -/
def KeptIs (L : List Att) (vars : List Int) (K : List Nat) : Prop := SortedN K ∧ ∀ i, i ∈ K ↔ Reach L (· ∈ roots L vars) i
theorem KeptIs.lt {L : List Att} {vars : List Int} {K : List Nat} (h : KeptIs L vars K) : ∀ i ∈ K, i < L.length := fun i hi => reach_lt (fun _ => roots_lt) ((h.2 i).1 hi)
theorem KeptIs.one {L : List Att} {vars : List Int} {K K' : List Nat} (h : KeptIs L vars K) (h' : KeptIs L vars K') : K = K' := sorted_ext h.1 h'.1 (fun i => (h.2 i).trans (h'.2 i).symm)
/-- By two lists is kept what is kept by the one, or by the other. -/
theorem kept_both {L : List Att} {a b : List Int} {x y z : List Nat} (hx : KeptIs L a x) (hy : KeptIs L b y) (hz : KeptIs L (a ++ b) z) (i : Nat) : i ∈ z ↔ i ∈ x ∨ i ∈ y := by
  have hr : ∀ j, j ∈ roots L (a ++ b) ↔ j ∈ roots L a ∨ j ∈ roots L b := by
    intro j
    unfold roots rootsV
    simp only [List.filterMap_append, List.mem_append]
    constructor
    · rintro ((h | h) | h)
      · exact .inl (.inl h)
      · exact .inr (.inl h)
      · exact .inl (.inr h)
    · rintro ((h | h) | (h | h))
      · exact .inl (.inl h)
      · exact .inr h
      · exact .inl (.inr h)
      · exact .inr h
  rw [hx.2, hy.2, hz.2]
  constructor
  · intro h
    induction h with
    | root h =>
      rcases (hr _).1 h with h | h
      · exact .inl (.root h)
      · exact .inr (.root h)
    | step _ hj ih =>
      rcases ih with h | h
      · exact .inl (.step h hj)
      · exact .inr (.step h hj)
  · rintro (h | h)
    · exact Reach.mono (fun j hj => .root ((hr j).2 (.inl hj))) h
    · exact Reach.mono (fun j hj => .root ((hr j).2 (.inr hj))) h
end Go.Proofs.Ytcdgfnocjnampaa
