/-
  Joined texts: SlD SlF SlP SlR.
-/
import Derived.Test.YtnmbacleaijhmaaDoorSgA
import Derived.Test.YtnmbacleaijhmaaDoorKit
/-
  What is kept of attempts, plainly: the writer of a version, what one asks, all that is reached. Nothing of the program.
-/
namespace Go.Proofs.YtnmbacleaijhmaaDoor
set_option linter.unusedVariables false
set_option linter.unusedSimpArgs false
set_option linter.unusedVariables false

def wroteB (a : Att) (v : Int) : Bool := a.writes.any fun p => p.1 == v
/-- A writer of a variable, up to a version. -/
def candB (a : Att) (v most : Int) : Bool := decide (0 < a.wv) && decide (a.wv ≤ most) && wroteB a v
/-- The writer among the first k. -/
def writerK (L : List Att) (v most : Int) : Nat → Int
  | 0 => -1
  | k + 1 => if (candB (L.getD k Att.zero) v most && (decide (writerK L v most k < 0) || decide ((L.getD (writerK L v most k).toNat Att.zero).wv < (L.getD k Att.zero).wv))) = true then (k : Int) else writerK L v most k
def writerL (L : List Att) (v most : Int) : Int := writerK L v most L.length
/-- What it is. -/
def IsWriter (L : List Att) (v most : Int) (k : Nat) (w : Int) : Prop :=
  (w = -1 ∧ ∀ i, i < k → candB (L.getD i Att.zero) v most = false) ∨
  (0 ≤ w ∧ w < k ∧ candB (L.getD w.toNat Att.zero) v most = true ∧ ∀ i, i < k → candB (L.getD i Att.zero) v most = true → (L.getD i Att.zero).wv < (L.getD w.toNat Att.zero).wv ∨ ((L.getD i Att.zero).wv = (L.getD w.toNat Att.zero).wv ∧ w ≤ i))
theorem writerK_is (L : List Att) (v most : Int) : ∀ k, IsWriter L v most k (writerK L v most k)
  | 0 => .inl ⟨rfl, fun i hi => absurd hi (Nat.not_lt_zero _)⟩
  | k + 1 => by
    have ih := writerK_is L v most k
    unfold writerK
    generalize writerK L v most k = w at ih ⊢
    by_cases hc : candB (L.getD k Att.zero) v most = true
    · rcases ih with ⟨rfl, h⟩ | ⟨h1, h2, h3, h4⟩
      · rw [if_pos (by rw [hc]; simp)]
        refine .inr ⟨by omega, by omega, by rw [Int.toNat_natCast]; exact hc, fun i hi h' => ?_⟩
        rw [Int.toNat_natCast]
        by_cases he : i = k
        · subst he; exact .inr ⟨rfl, Int.le_refl _⟩
        · rw [h i (by omega)] at h'; cases h'
      · by_cases hg : (L.getD w.toNat Att.zero).wv < (L.getD k Att.zero).wv
        · rw [if_pos (by rw [hc, decide_eq_true hg]; simp)]
          refine .inr ⟨by omega, by omega, by rw [Int.toNat_natCast]; exact hc, fun i hi h' => ?_⟩
          rw [Int.toNat_natCast]
          by_cases he : i = k
          · subst he; exact .inr ⟨rfl, Int.le_refl _⟩
          · have := h4 i (by omega) h'
            exact .inl (by omega)
        · rw [if_neg (by rw [hc, decide_eq_false hg, decide_eq_false (show ¬ w < 0 by omega)]; simp)]
          refine .inr ⟨h1, by omega, h3, fun i hi h' => ?_⟩
          by_cases he : i = k
          · subst he
            omega
          · exact h4 i (by omega) h'
    · rw [Bool.not_eq_true] at hc
      rw [if_neg (by rw [hc]; simp)]
      rcases ih with ⟨rfl, h⟩ | ⟨h1, h2, h3, h4⟩
      · refine .inl ⟨rfl, fun i hi => ?_⟩
        by_cases he : i = k
        · subst he; exact hc
        · exact h i (by omega)
      · refine .inr ⟨h1, by omega, h3, fun i hi h' => ?_⟩
        by_cases he : i = k
        · subst he; rw [hc] at h'; cases h'
        · exact h4 i (by omega) h'
theorem writerL_is (L : List Att) (v most : Int) : IsWriter L v most L.length (writerL L v most) := writerK_is L v most L.length
theorem isWriter_one {L : List Att} {v most : Int} {k : Nat} {a b : Int} (ha : IsWriter L v most k a) (hb : IsWriter L v most k b) : a = b := by
  rcases ha with ⟨rfl, h⟩ | ⟨h1, h2, h3, h4⟩
  · rcases hb with ⟨rfl, _⟩ | ⟨g1, g2, g3, _⟩
    · rfl
    · rw [h b.toNat (by omega)] at g3; cases g3
  · rcases hb with ⟨rfl, g⟩ | ⟨g1, g2, g3, g4⟩
    · rw [g a.toNat (by omega)] at h3; cases h3
    · have e1 := h4 b.toNat (by omega) g3
      have e2 := g4 a.toNat (by omega) h3
      omega
theorem isWriter_lt {L : List Att} {v most w : Int} (h : IsWriter L v most L.length w) (hw : 0 ≤ w) : w.toNat < L.length := by
  rcases h with ⟨rfl, _⟩ | ⟨h1, h2, _⟩ <;> omega
def topK (L : List Att) : Nat → Int
  | 0 => 0
  | k + 1 => max (topK L k) (L.getD k Att.zero).wv
def topL (L : List Att) : Int := topK L L.length
theorem topK_ge (L : List Att) : ∀ k i, i < k → (L.getD i Att.zero).wv ≤ topK L k
  | 0, i, h => absurd h (Nat.not_lt_zero _)
  | k + 1, i, h => by
    unfold topK
    by_cases he : i = k
    · subst he; omega
    · have := topK_ge L k i (by omega); omega
theorem topK_nonneg (L : List Att) : ∀ k, 0 ≤ topK L k
  | 0 => Int.le_refl _
  | k + 1 => by unfold topK; have := topK_nonneg L k; omega
/-- By variables: who is kept of himself. -/
def rootsV (L : List Att) (vars : List Int) : List Nat := vars.filterMap fun v => if 0 ≤ writerL L v (topL L) then some (writerL L v (topL L)).toNat else none
def openB (a : Att) : Bool := decide (0 < a.wv) && decide (a.to_ = -1)
def rootsO (L : List Att) : List Nat := (List.range L.length).filter fun i => openB (L.getD i Att.zero)
def roots (L : List Att) (vars : List Int) : List Nat := rootsV L vars ++ rootsO L
/-- What one asks. -/
def askedR (L : List Att) (a : Att) : List Nat := a.reads.filterMap fun p => if 0 ≤ writerL L p.1 a.rv then some (writerL L p.1 a.rv).toNat else none
def beforeB (a b : Att) : Bool := b.com && decide (b.th = a.th) && decide (b.tx < a.tx)
def askedT (L : List Att) (a : Att) : List Nat := (List.range L.length).filter fun i => beforeB a (L.getD i Att.zero)
def asked (L : List Att) (a : Att) : List Nat := askedR L a ++ askedT L a
theorem asked_lt {L : List Att} {a : Att} {j : Nat} (h : j ∈ asked L a) : j < L.length := by
  rcases List.mem_append.1 h with h | h
  · obtain ⟨p, _, hp⟩ := List.mem_filterMap.1 h
    split at hp
    · cases hp; exact isWriter_lt (writerL_is L p.1 a.rv) (by assumption)
    · cases hp
  · exact List.mem_range.1 (List.mem_filter.1 h).1
theorem roots_lt {L : List Att} {vars : List Int} {j : Nat} (h : j ∈ roots L vars) : j < L.length := by
  rcases List.mem_append.1 h with h | h
  · obtain ⟨v, _, hp⟩ := List.mem_filterMap.1 h
    split at hp
    · cases hp; exact isWriter_lt (writerL_is L v (topL L)) (by assumption)
    · cases hp
  · exact List.mem_range.1 (List.mem_filter.1 h).1
/-- All that is reached. -/
inductive Reach (L : List Att) (R : Nat → Prop) : Nat → Prop
  | root {i : Nat} : R i → Reach L R i
  | step {i j : Nat} : Reach L R i → j ∈ asked L (L.getD i Att.zero) → Reach L R j
theorem Reach.mono {L : List Att} {R R' : Nat → Prop} (h : ∀ i, R i → Reach L R' i) : ∀ {i}, Reach L R i → Reach L R' i
  | _, .root hr => h _ hr
  | _, .step hi hj => .step (Reach.mono h hi) hj
def SortedN (l : List Nat) : Prop := l.Pairwise (· < ·)
/-- Where one stands, or would stand, in a list that rises. -/
def placeN (l : List Nat) (i : Nat) : Nat := l.countP fun j => decide (j < i)
def insN (l : List Nat) (i : Nat) : List Nat := l.take (placeN l i) ++ i :: l.drop (placeN l i)
theorem placeN_le (l : List Nat) (i : Nat) : placeN l i ≤ l.length := List.countP_le_length
theorem placeN_cons (x : Nat) (l : List Nat) (i : Nat) : placeN (x :: l) i = placeN l i + if x < i then 1 else 0 := by
  unfold placeN
  rw [List.countP_cons]
  simp
theorem placeN_zero {l : List Nat} {x i : Nat} (h : SortedN (x :: l)) (hx : ¬ x < i) : placeN (x :: l) i = 0 := by
  unfold placeN
  rw [List.countP_eq_zero]
  intro j hj
  rcases List.mem_cons.1 hj with rfl | hj
  · simpa using hx
  · have := (List.pairwise_cons.1 h).1 j hj
    simp
    omega
/-- Below its place there is what is less, from it on what is not. -/
theorem placeN_spec : ∀ {l : List Nat} {i : Nat}, SortedN l → (∀ k (h : k < l.length), k < placeN l i → l[k] < i) ∧ (∀ k (h : k < l.length), placeN l i ≤ k → i ≤ l[k])
  | [], i, _ => ⟨fun k h => absurd h (Nat.not_lt_zero _), fun k h => absurd h (Nat.not_lt_zero _)⟩
  | x :: l, i, hs => by
    have hs' := (List.pairwise_cons.1 hs)
    by_cases hx : x < i
    · obtain ⟨h1, h2⟩ := placeN_spec (i := i) hs'.2
      rw [placeN_cons, if_pos hx]
      refine ⟨fun k hk hl => ?_, fun k hk hl => ?_⟩
      · cases k with
        | zero => exact hx
        | succ k => exact h1 k (by simpa using hk) (by omega)
      · cases k with
        | zero => omega
        | succ k => exact h2 k (by simpa using hk) (by omega)
    · rw [placeN_zero hs hx]
      refine ⟨fun k hk hl => absurd hl (Nat.not_lt_zero _), fun k hk _ => ?_⟩
      cases k with
      | zero => show i ≤ x; omega
      | succ k =>
        have := hs'.1 (l[k]'(by simpa using hk)) (List.getElem_mem _)
        show i ≤ l[k]'(by simpa using hk)
        omega
theorem insN_mem {l : List Nat} {i j : Nat} : j ∈ insN l i ↔ j = i ∨ j ∈ l := by
  unfold insN
  rw [List.mem_append, List.mem_cons]
  have : j ∈ l ↔ j ∈ l.take (placeN l i) ∨ j ∈ l.drop (placeN l i) := by
    rw [← List.mem_append, List.take_append_drop]
  rw [this]
  constructor
  · rintro (h | h | h)
    · exact .inr (.inl h)
    · exact .inl h
    · exact .inr (.inr h)
  · rintro (h | h | h)
    · exact .inr (.inl h)
    · exact .inl h
    · exact .inr (.inr h)
theorem insN_len (l : List Nat) (i : Nat) : (insN l i).length = l.length + 1 := by
  unfold insN
  have := placeN_le l i
  rw [List.length_append, List.length_cons, List.length_take, List.length_drop]
  omega
theorem insN_cons_lt {x i : Nat} {l : List Nat} (h : x < i) : insN (x :: l) i = x :: insN l i := by
  unfold insN
  rw [placeN_cons, if_pos h]
  rfl
theorem insN_sorted : ∀ {l : List Nat} {i : Nat}, SortedN l → i ∉ l → SortedN (insN l i)
  | [], i, _, _ => List.pairwise_singleton _ _
  | x :: l, i, hs, hn => by
    have hs' := List.pairwise_cons.1 hs
    by_cases hx : x < i
    · rw [insN_cons_lt hx]
      refine List.pairwise_cons.2 ⟨fun j hj => ?_, insN_sorted hs'.2 (fun h => hn (List.mem_cons_of_mem _ h))⟩
      rcases insN_mem.1 hj with rfl | hj
      · exact hx
      · exact hs'.1 j hj
    · unfold insN
      rw [placeN_zero hs hx]
      refine List.pairwise_cons.2 ⟨fun j hj => ?_, hs⟩
      have hne : i ≠ x := fun e => hn (by rw [e]; exact List.mem_cons_self ..)
      rcases List.mem_cons.1 hj with rfl | hj
      · omega
      · have := hs'.1 j hj; omega
theorem sorted_len' {n : Nat} : ∀ {l : List Nat} {b : Nat}, SortedN l → (∀ i ∈ l, b ≤ i ∧ i < n) → b ≤ n → l.length ≤ n - b
  | [], b, _, _, _ => Nat.zero_le _
  | x :: l, b, hs, hl, hb => by
    have hs' := List.pairwise_cons.1 hs
    have hx := hl x (List.mem_cons_self ..)
    have := sorted_len' (b := x + 1) hs'.2 (fun i hi => ⟨hs'.1 i hi, (hl i (List.mem_cons_of_mem _ hi)).2⟩) (by omega)
    rw [List.length_cons]
    omega
theorem sorted_len {n : Nat} {l : List Nat} (hs : SortedN l) (hl : ∀ i ∈ l, i < n) : l.length ≤ n := sorted_len' (b := 0) hs (fun i hi => ⟨Nat.zero_le _, hl i hi⟩) (Nat.zero_le _)
theorem sorted_ext {l m : List Nat} (hl : SortedN l) (hm : SortedN m) (h : ∀ i, i ∈ l ↔ i ∈ m) : l = m := by
  have p : l.Perm m := (List.perm_ext_iff_of_nodup (hl.imp (fun h => Nat.ne_of_lt h)) (hm.imp (fun h => Nat.ne_of_lt h))).2 h
  exact p.eq_of_pairwise (le := (· < ·)) (fun a b _ _ h1 h2 => absurd h1 (Nat.lt_asymm h2)) hl hm
/-- What holds while one goes over what is to do. -/
structure KeepI (L : List Att) (R : Nat → Prop) (todo out : List Nat) : Prop where
  sorted : SortedN out
  outR : ∀ i ∈ out, Reach L R i
  todoR : ∀ i ∈ todo, Reach L R i
  root : ∀ i, R i → i ∈ out ∨ i ∈ todo
  step : ∀ i ∈ out, ∀ j ∈ asked L (L.getD i Att.zero), j ∈ out ∨ j ∈ todo
theorem KeepI.skip {L : List Att} {R : Nat → Prop} {i : Nat} {todo out : List Nat} (h : KeepI L R (i :: todo) out) (hi : i ∈ out) : KeepI L R todo out where
  sorted := h.sorted
  outR := h.outR
  todoR j hj := h.todoR j (List.mem_cons_of_mem _ hj)
  root j hj := by
    rcases h.root j hj with h1 | h1
    · exact .inl h1
    · rcases List.mem_cons.1 h1 with rfl | h1
      · exact .inl hi
      · exact .inr h1
  step k hk j hj := by
    rcases h.step k hk j hj with h1 | h1
    · exact .inl h1
    · rcases List.mem_cons.1 h1 with rfl | h1
      · exact .inl hi
      · exact .inr h1
theorem KeepI.take {L : List Att} {R : Nat → Prop} {i : Nat} {todo out : List Nat} (h : KeepI L R (i :: todo) out) (hi : i ∉ out) : KeepI L R (todo ++ asked L (L.getD i Att.zero)) (insN out i) where
  sorted := insN_sorted h.sorted hi
  outR j hj := by
    rcases insN_mem.1 hj with rfl | hj
    · exact h.todoR _ (List.mem_cons_self ..)
    · exact h.outR j hj
  todoR j hj := by
    rcases List.mem_append.1 hj with hj | hj
    · exact h.todoR j (List.mem_cons_of_mem _ hj)
    · exact .step (h.todoR _ (List.mem_cons_self ..)) hj
  root j hj := by
    rcases h.root j hj with h1 | h1
    · exact .inl (insN_mem.2 (.inr h1))
    · rcases List.mem_cons.1 h1 with rfl | h1
      · exact .inl (insN_mem.2 (.inl rfl))
      · exact .inr (List.mem_append_left _ h1)
  step k hk j hj := by
    rcases insN_mem.1 hk with rfl | hk
    · exact .inr (List.mem_append_right _ hj)
    · rcases h.step k hk j hj with h1 | h1
      · exact .inl (insN_mem.2 (.inr h1))
      · rcases List.mem_cons.1 h1 with rfl | h1
        · exact .inl (insN_mem.2 (.inl rfl))
        · exact .inr (List.mem_append_left _ h1)
theorem KeepI.done {L : List Att} {R : Nat → Prop} {out : List Nat} (h : KeepI L R [] out) : ∀ i, i ∈ out ↔ Reach L R i := by
  intro i
  constructor
  · exact h.outR i
  · intro hr
    induction hr with
    | root hr =>
      rcases h.root _ hr with h1 | h1
      · exact h1
      · exact absurd h1 (List.not_mem_nil)
    | step _ hj ih =>
      rcases h.step _ ih _ hj with h1 | h1
      · exact h1
      · exact absurd h1 (List.not_mem_nil)
theorem KeepI.start (L : List Att) (vars : List Int) : KeepI L (· ∈ roots L vars) (roots L vars) [] where
  sorted := List.Pairwise.nil
  outR i hi := absurd hi (List.not_mem_nil)
  todoR i hi := .root hi
  root i hi := .inr hi
  step i hi := absurd hi (List.not_mem_nil)
theorem reach_lt {L : List Att} {R : Nat → Prop} (hR : ∀ i, R i → i < L.length) : ∀ {i}, Reach L R i → i < L.length
  | _, .root h => hR _ h
  | _, .step _ h => asked_lt h
/-- K is what is kept. -/
def KeptIs (L : List Att) (vars : List Int) (K : List Nat) : Prop := SortedN K ∧ ∀ i, i ∈ K ↔ Reach L (· ∈ roots L vars) i
theorem KeptIs.lt {L : List Att} {vars : List Int} {K : List Nat} (h : KeptIs L vars K) : ∀ i ∈ K, i < L.length := fun i hi => reach_lt (fun _ => roots_lt) ((h.2 i).1 hi)
theorem KeptIs.one {L : List Att} {vars : List Int} {K K' : List Nat} (h : KeptIs L vars K) (h' : KeptIs L vars K') : K = K' := sorted_ext h.1 h'.1 (fun i => (h.2 i).trans (h'.2 i).symm)
/-- By two lists is kept what is kept by the one, or by the other. -/
theorem kept_both {L : List Att} {a b : List Int} {x y z : List Nat} (hx : KeptIs L a x) (hy : KeptIs L b y) (hz : KeptIs L (a ++ b) z) (i : Nat) : i ∈ z ↔ i ∈ x ∨ i ∈ y := by
  have hr : ∀ j, j ∈ roots L (a ++ b) ↔ j ∈ roots L a ∨ j ∈ roots L b := by
    intro j
    unfold roots rootsV
    simp only [List.filterMap_append, List.mem_append]
    constructor
    · rintro ((h | h) | h)
      · exact .inl (.inl h)
      · exact .inr (.inl h)
      · exact .inl (.inr h)
    · rintro ((h | h) | (h | h))
      · exact .inl (.inl h)
      · exact .inr h
      · exact .inl (.inr h)
      · exact .inr h
  rw [hx.2, hy.2, hz.2]
  constructor
  · intro h
    induction h with
    | root h =>
      rcases (hr _).1 h with h | h
      · exact .inl (.root h)
      · exact .inr (.root h)
    | step _ hj ih =>
      rcases ih with h | h
      · exact .inl (.step h hj)
      · exact .inr (.step h hj)
  · rintro (h | h)
    · exact Reach.mono (fun j hj => .root ((hr j).2 (.inl hj))) h
    · exact Reach.mono (fun j hj => .root ((hr j).2 (.inr hj))) h
end Go.Proofs.YtnmbacleaijhmaaDoor
/-
  What is kept of attempts, as a row of steps that ends. Nothing of the program.
-/
namespace Go.Proofs.YtnmbacleaijhmaaDoor
set_option linter.unusedVariables false
set_option linter.unusedSimpArgs false
set_option linter.unusedVariables false
def keepF (L : List Att) : Nat → List Nat → List Nat → List Nat
  | 0, _, out => out
  | _ + 1, [], out => out
  | n + 1, i :: todo, out => if i ∈ out then keepF L n todo out else keepF L n (todo ++ asked L (L.getD i Att.zero)) (insN out i)
def maxF : List Nat → Nat
  | [] => 0
  | n :: l => max n (maxF l)
theorem maxF_ge : ∀ {l : List Nat} {n : Nat}, n ∈ l → n ≤ maxF l
  | m :: l, n, h => by
    unfold maxF
    rcases List.mem_cons.1 h with rfl | h
    · omega
    · have := maxF_ge h; omega
theorem maxF_le {B : Nat} : ∀ {l : List Nat}, (∀ n ∈ l, n ≤ B) → maxF l ≤ B
  | [], _ => Nat.zero_le _
  | m :: l, h => by
    unfold maxF
    have := h m (List.mem_cons_self ..)
    have := maxF_le (l := l) (fun n hn => h n (List.mem_cons_of_mem _ hn))
    omega
/-- What one asks at most. -/
def askN (L : List Att) : Nat := maxF (L.map fun a => (asked L a).length)
theorem askN_ge {L : List Att} {i : Nat} (h : i < L.length) : (asked L (L.getD i Att.zero)).length ≤ askN L := by
  refine maxF_ge (List.mem_map.2 ⟨L[i], List.getElem_mem h, ?_⟩)
  rw [List.getD_eq_getElem?_getD, List.getElem?_eq_getElem h]; rfl
theorem filterMap_len {α β : Type} (f : α → Option β) (l : List α) : (l.filterMap f).length ≤ l.length := List.length_filterMap_le _ _
theorem asked_len (L : List Att) (a : Att) : (asked L a).length ≤ a.reads.length + L.length := by
  unfold asked askedR askedT
  rw [List.length_append]
  have h1 := filterMap_len (fun p : Int × Int => if 0 ≤ writerL L p.1 a.rv then some (writerL L p.1 a.rv).toNat else none) a.reads
  have h2 := List.length_filter_le (fun i => beforeB a (L.getD i Att.zero)) (List.range L.length)
  rw [List.length_range] at h2
  omega
theorem roots_len (L : List Att) (vars : List Int) : (roots L vars).length ≤ vars.length + L.length := by
  unfold roots rootsV rootsO
  rw [List.length_append]
  have h1 := filterMap_len (fun v : Int => if 0 ≤ writerL L v (topL L) then some (writerL L v (topL L)).toNat else none) vars
  have h2 := List.length_filter_le (fun i => openB (L.getD i Att.zero)) (List.range L.length)
  rw [List.length_range] at h2
  omega
theorem askN_le {L : List Att} {B : Nat} (h : ∀ a ∈ L, a.reads.length ≤ B) : askN L ≤ B + L.length := by
  refine maxF_le fun n hn => ?_
  obtain ⟨a, ha, rfl⟩ := List.mem_map.1 hn
  have := asked_len L a
  have := h a ha
  omega
theorem out_len {L : List Att} {R : Nat → Prop} (hR : ∀ i, R i → i < L.length) {todo out : List Nat} (h : KeepI L R todo out) : out.length ≤ L.length := sorted_len h.sorted (fun i hi => reach_lt hR (h.outR i hi))
theorem take_meas {a b n A t s : Nat} (h1 : b = a + 1) (h2 : b ≤ n) (hs : s ≤ A) : (n - b) * (A + 1) + (t + s) < (n - a) * (A + 1) + (t + 1) := by
  obtain ⟨d, rfl⟩ : ∃ d, n = b + d := ⟨n - b, by omega⟩
  subst h1
  have e1 : a + 1 + d - (a + 1) = d := by omega
  have e2 : a + 1 + d - a = d + 1 := by omega
  rw [e1, e2, Nat.succ_mul]
  omega
theorem keepF_is {L : List Att} {R : Nat → Prop} (hR : ∀ i, R i → i < L.length) : ∀ (n : Nat) (todo out : List Nat), KeepI L R todo out → (L.length - out.length) * (askN L + 1) + todo.length ≤ n → KeepI L R [] (keepF L n todo out)
  | 0, todo, out, h, hm => by
    have : todo = [] := List.eq_nil_of_length_eq_zero (by omega)
    subst this
    exact h
  | n + 1, [], out, h, hm => h
  | n + 1, i :: todo, out, h, hm => by
    unfold keepF
    rw [List.length_cons] at hm
    by_cases hi : i ∈ out
    · rw [if_pos hi]
      exact keepF_is hR n todo out (h.skip hi) (by omega)
    · rw [if_neg hi]
      have h' := h.take hi
      have hl := out_len hR h'
      have hil : i < L.length := reach_lt hR (h.todoR i (List.mem_cons_self ..))
      refine keepF_is hR n _ _ h' ?_
      rw [List.length_append]
      have := take_meas (t := todo.length) (insN_len out i) hl (askN_ge hil)
      omega
def keptL (L : List Att) (vars : List Int) : List Nat := keepF L (L.length * (askN L + 1) + (roots L vars).length) (roots L vars) []
theorem keptL_is (L : List Att) (vars : List Int) : KeptIs L vars (keptL L vars) := by
  have h := keepF_is (L := L) (R := (· ∈ roots L vars)) (fun _ => roots_lt) (L.length * (askN L + 1) + (roots L vars).length) (roots L vars) [] (KeepI.start L vars) (by simp)
  exact ⟨h.sorted, h.done⟩
theorem keepI_kept {L : List Att} {vars : List Int} {out : List Nat} (h : KeepI L (· ∈ roots L vars) [] out) : out = keptL L vars := KeptIs.one (L := L) (vars := vars) ⟨h.sorted, h.done⟩ (keptL_is L vars)
end Go.Proofs.YtnmbacleaijhmaaDoor
/-
  What is kept of a trace has committed; what stopped never does. The plain law of SliceCommitted. Nothing of the program.
-/
namespace Go.Proofs.YtnmbacleaijhmaaDoor
set_option linter.unusedVariables false
set_option linter.unusedSimpArgs false
set_option linter.unusedVariables false
/-- The attempt m, of the thread t, has not committed, and will not. -/
def StopD (t m : Nat) (s : Sh) (h : HS) : Prop :=
  ∃ a, h.out[m]? = some a ∧ a.th = (t : Int) ∧ a.com = false ∧ (h.last t = m → (s.ths.getD t Th.zero).at_ = 0 ∨ (s.ths.getD t Th.zero).at_ = 7 ∨ (s.ths.getD t Th.zero).at_ = 8 ∨ (s.ths.getD t Th.zero).at_ = 9)
theorem stop_step {s s' : Sh} {h : HS} {n : Int} {e : Ev} {t m : Nat} (hw : Wf s) (hi : HI s h n) (hs : stepS s e = some s') (H : StopD t m s h) : StopD t m s' (stepH h n e) := by
  obtain ⟨a, h1, h2, h3, h4⟩ := H
  have hml := (List.getElem?_eq_some_iff.1 h1).1
  obtain ⟨th, t', hthe, hlt, hths, -, -, hmv, -, -⟩ := at_step hw hs
  have hother : th ≠ t → (s'.ths.getD t Th.zero).at_ = (s.ths.getD t Th.zero).at_ := fun hne => by rw [hths, getD_set_ne _ _ _ _ _ hne]
  have hsame : th = t → (s'.ths.getD t Th.zero).at_ = t'.at_ := fun he => by subst he; rw [hths, getD_set_eq _ _ _ _ hlt]
  unfold stepH
  split
  · rename_i k1
    refine ⟨a, ?_, h2, h3, fun hl => ?_⟩
    · show (h.out ++ [newA e n])[m]? = some a
      rw [List.getElem?_append_left hml]; exact h1
    · have hl : updN h.last e.th h.out.length t = m := hl
      unfold updN at hl
      by_cases he : th = t
      · subst he
        rw [if_pos hthe.symm] at hl
        omega
      · rw [if_neg (by rw [hthe]; omega)] at hl
        rw [hother he]
        exact h4 hl
  · split
    · rename_i k1 k13
      refine ⟨a, h1, h2, h3, fun hl => ?_⟩
      by_cases he : th = t
      · rw [hsame he]
        unfold Moves at hmv
        omega
      · rw [hother he]; exact h4 hl
    · rename_i k1 k13
      obtain ⟨a', o, g1, g2, g3, g4, g5⟩ := hi_mid hw hi hs k1 k13
      have hl' := (List.getElem?_eq_some_iff.1 g1).1
      rw [getD_of_get? g1, getD_of_get? g2]
      by_cases hm : h.last e.th = m
      · rw [hm] at g1
        rw [h1] at g1
        cases g1
        have het : th = t := by rw [hthe, h2] at g3; omega
        have hlt2 : h.last t = m := by rw [← hm, hthe, het]
        have hat := h4 hlt2
        have hk : e.kind = 11 := by rw [← het] at hat; unfold Moves at hmv; omega
        refine ⟨turnA a o e n, ?_, ?_, ?_, fun _ => ?_⟩
        · show (h.out.set (h.last e.th) (turnA a o e n))[m]? = _
          rw [hm, List.getElem?_set_self hml]
        · unfold turnA; simp [hk]; exact h2
        · unfold turnA; simp [hk]; exact h3
        · rw [hsame het]
          unfold Moves at hmv
          omega
      · refine ⟨a, ?_, h2, h3, fun hl => ?_⟩
        · show (h.out.set (h.last e.th) (turnA a' o e n))[m]? = _
          rw [List.getElem?_set_ne hm]; exact h1
        · have hl : h.last t = m := hl
          by_cases he : th = t
          · exfalso; apply hm; rw [hthe, he]; exact hl
          · rw [hother he]; exact h4 hl
theorem stop_run : ∀ (l : List Ev) {s s' : Sh} {h : HS} {n : Int} {t m : Nat}, Wf s → HI s h n → runS s l = some s' → StopD t m s h → ∃ a, (histF h n l).out[m]? = some a ∧ a.com = false
  | [], s, s', h, n, t, m, hw, hi, hr, H => by
    obtain ⟨a, h1, h2, h3, h4⟩ := H
    exact ⟨a, h1, h3⟩
  | e :: l, s, s', h, n, t, m, hw, hi, hr, H => by
    unfold runS at hr
    split at hr
    case h_2 => cases hr
    rename_i s1 hs
    exact stop_run l (stepS_wf hw hs) (hi_step hw hi hs) hr (stop_step hw hi hs H)
/-- An attempt that aborts, or waits, never commits. -/
theorem Hist.stopped {T V S : Int} {l : List Ev} {s : Sh} (h : Hist T V S l s) {i : Nat} (hi : i < l.length) (hk : (l[i]'hi).kind = 10 ∨ (l[i]'hi).kind = 12) :
    ∃ (m : Nat) (a : Att), ofI l i = (m : Int) ∧ (histT l).out[m]? = some a ∧ a.com = false := by
  obtain ⟨r, r', hr, hs, hr'⟩ := h.step hi
  have hlen : ((l.take i).length : Int) = i := by rw [List.length_take, Nat.min_eq_left (Nat.le_of_lt hi)]
  have hlen' : ((l.take (i + 1)).length : Int) = (i : Int) + 1 := by rw [List.length_take, Nat.min_eq_left hi]; omega
  have hI := hr.hi
  have hI' := hr'.hi
  rw [hlen] at hI
  rw [hlen'] at hI'
  have k1 : (l[i]'hi).kind ≠ 1 := by omega
  have k13 : (l[i]'hi).kind ≠ 13 := by omega
  obtain ⟨th, t', hthe, hlt, hths, -, -, hmv, -, -⟩ := at_step hr.wf hs
  have hat : 1 ≤ (r.ths.getD th Th.zero).at_ ∧ (r.ths.getD th Th.zero).at_ ≤ 4 := by unfold Moves at hmv; omega
  obtain ⟨a, o, g1, g2, g3, g4, g5⟩ := hI.mine hlt (by omega)
  have hcom : a.com = false := (g5.run (by omega)).2.1
  have ho : ofI l i = ((histT (l.take i)).last ((l[i]'hi).th) : Nat) := by rw [ofI_eq hi]; unfold ofH; rw [if_neg k1, if_neg k13]
  have hl := (List.getElem?_eq_some_iff.1 g1).1
  have hst : histT (l.take (i + 1)) = ⟨(histT (l.take i)).last, (histT (l.take i)).out.set ((histT (l.take i)).last th) (turnA a o (l[i]'hi) i), (histT (l.take i)).owned.set ((histT (l.take i)).last th) (turnO o (l[i]'hi))⟩ := by
    rw [histT_step hi]; unfold stepH; rw [if_neg k1, if_neg k13, hthe, getD_of_get? g1, getD_of_get? g2]
  have hD : StopD th ((histT (l.take i)).last th) r' (histT (l.take (i + 1))) := by
    rw [hst]
    refine ⟨turnA a o (l[i]'hi) i, ?_, ?_, ?_, fun _ => ?_⟩
    · show ((histT (l.take i)).out.set ((histT (l.take i)).last th) _)[(histT (l.take i)).last th]? = _
      rw [List.getElem?_set_self hl]
    · unfold turnA
      rcases hk with hk | hk <;> simp [hk] <;> exact g3
    · unfold turnA
      rcases hk with hk | hk <;> simp [hk] <;> exact hcom
    · rw [hths, getD_set_eq _ _ _ _ hlt]
      unfold Moves at hmv
      omega
  have e1 : l = l.take (i + 1) ++ l.drop (i + 1) := (List.take_append_drop _ _).symm
  have hrun : runS r' (l.drop (i + 1)) = some s := by
    have h1 := h.run
    rw [e1, runS_append, hr'.run] at h1
    exact h1
  obtain ⟨a2, q1, q2⟩ := stop_run (l.drop (i + 1)) hr'.wf hI' hrun hD
  have e2 : histT l = histF (histT (l.take (i + 1))) ((i : Int) + 1) (l.drop (i + 1)) := by
    have h2 : histT l = histT (l.take (i + 1) ++ l.drop (i + 1)) := by rw [← e1]
    rw [h2]
    unfold histT
    rw [histF_append]
    rw [show (0 : Int) + ((l.take (i + 1)).length : Int) = (i : Int) + 1 by omega]
  exact ⟨_, a2, by rw [ho, hthe], by rw [e2]; exact q1, q2⟩
theorem Hist.att {T V S : Int} {l : List Ev} {s : Sh} (h : Hist T V S l s) {k : Nat} {a : Att} (hk : (histT l).out[k]? = some a) : a.com = false → a.wv = 0 := (h.hi.att k a hk).nc
theorem cand_com {T V S : Int} {l : List Ev} {s : Sh} (h : Hist T V S l s) {k : Nat} (hk : k < (histT l).out.length) (hw : 0 < ((histT l).out.getD k Att.zero).wv) : ((histT l).out.getD k Att.zero).com = true := by
  have h1 := h.att (get?_getD Att.zero hk)
  cases hc : ((histT l).out.getD k Att.zero).com with
  | true => rfl
  | false => have := h1 hc; omega
theorem writer_com {T V S : Int} {l : List Ev} {s : Sh} (h : Hist T V S l s) {v most : Int} (hw : 0 ≤ writerL (histT l).out v most) : ((histT l).out.getD (writerL (histT l).out v most).toNat Att.zero).com = true := by
  have h1 := writerL_is (histT l).out v most
  rcases h1 with ⟨h1, -⟩ | ⟨h0, h1, h2, -⟩
  · omega
  · refine cand_com h (by omega) ?_
    unfold candB at h2
    simp only [Bool.and_eq_true, decide_eq_true_eq] at h2
    omega
theorem roots_com {T V S : Int} {l : List Ev} {s : Sh} (h : Hist T V S l s) {vars : List Int} {i : Nat} (hi : i ∈ roots (histT l).out vars) : ((histT l).out.getD i Att.zero).com = true := by
  rcases List.mem_append.1 hi with hi | hi
  · obtain ⟨v, -, hv⟩ := List.mem_filterMap.1 hi
    split at hv
    · cases hv
      exact writer_com h (by assumption)
    · cases hv
  · obtain ⟨h1, h2⟩ := List.mem_filter.1 hi
    unfold openB at h2
    simp only [Bool.and_eq_true, decide_eq_true_eq] at h2
    exact cand_com h (List.mem_range.1 h1) h2.1
theorem asked_com {T V S : Int} {l : List Ev} {s : Sh} (h : Hist T V S l s) {a : Att} {j : Nat} (hj : j ∈ asked (histT l).out a) : ((histT l).out.getD j Att.zero).com = true := by
  rcases List.mem_append.1 hj with hj | hj
  · obtain ⟨p, -, hp⟩ := List.mem_filterMap.1 hj
    split at hp
    · cases hp
      exact writer_com h (by assumption)
    · cases hp
  · obtain ⟨-, h2⟩ := List.mem_filter.1 hj
    unfold beforeB at h2
    simp only [Bool.and_eq_true] at h2
    exact h2.1.1
/-- All that is kept of a trace has committed. -/
theorem kept_com {T V S : Int} {l : List Ev} {s : Sh} (h : Hist T V S l s) {vars : List Int} {i : Nat} (hi : i ∈ keptL (histT l).out vars) : i < (histT l).out.length ∧ ((histT l).out.getD i Att.zero).com = true := by
  have hk := keptL_is (histT l).out vars
  refine ⟨hk.lt i hi, ?_⟩
  have hr := (hk.2 i).1 hi
  cases hr with
  | root hr => exact roots_com h hr
  | step _ hj => exact asked_com h hj
/-- By no variables nothing is kept, if all writers have ended. -/
theorem kept_none {L : List Att} (h : ∀ a ∈ L, a.wv = 0 ∨ a.to_ ≠ -1) (hp : ∀ a ∈ L, 0 ≤ a.wv) : keptL L [] = [] := by
  have hr : roots L [] = [] := by
    unfold roots rootsV rootsO
    rw [List.filterMap_nil, List.nil_append, List.filter_eq_nil_iff]
    intro i hi
    have hil := List.mem_range.1 hi
    have hm : L.getD i Att.zero ∈ L := by rw [List.getD_eq_getElem?_getD, List.getElem?_eq_getElem hil]; exact List.getElem_mem hil
    have h1 := h _ hm
    generalize L.getD i Att.zero = a at *
    unfold openB
    simp only [Bool.and_eq_true, decide_eq_true_eq]
    omega
  have hk := keptL_is L []
  have : ∀ i, ¬ Reach L (· ∈ roots L []) i := by
    intro i hi
    induction hi with
    | root h => rw [hr] at h; cases h
    | step _ _ ih => exact ih
  rw [List.eq_nil_iff_forall_not_mem]
  intro i hi
  exact this i ((hk.2 i).1 hi)
/-- Is an event of an attempt that is kept? -/
def inK (K : List Nat) (o : Int) : Bool := decide (0 ≤ o) && decide (o.toNat ∈ K)
/-- The events of the slice among the first k. -/
def byF (l : List Ev) (K : List Nat) (k : Nat) : List Ev := (List.range k).filterMap fun i => if inK K (ofI l i) = true then l[i]? else none
theorem byF_step (l : List Ev) (K : List Nat) (k : Nat) (hk : k < l.length) : byF l K (k + 1) = byF l K k ++ (if inK K (ofI l k) = true then [l[k]'hk] else []) := by
  unfold byF
  rw [List.range_succ, List.filterMap_append]
  congr 1
  split
  · rename_i h; simp [h, List.getElem?_eq_getElem hk]
  · rename_i h; simp [h]
theorem byF_kinds {T V S : Int} {l : List Ev} {s : Sh} (h : Hist T V S l s) {vars : List Int} {e : Ev} (he : e ∈ byF l (keptL (histT l).out vars) l.length) : e.kind ≠ 13 ∧ e.kind ≠ 10 ∧ e.kind ≠ 12 := by
  obtain ⟨i, hi, hie⟩ := List.mem_filterMap.1 he
  have hil := List.mem_range.1 hi
  split at hie
  case isFalse => cases hie
  rename_i hm
  unfold inK at hm
  simp only [Bool.and_eq_true, decide_eq_true_eq] at hm
  obtain ⟨hm1, hm2⟩ := hm
  obtain ⟨m, hm0⟩ : ∃ m : Nat, ofI l i = (m : Int) := ⟨(ofI l i).toNat, by omega⟩
  rw [hm0, Int.toNat_natCast] at hm2
  rw [List.getElem?_eq_getElem hil] at hie
  cases hie
  obtain ⟨hml, hmc⟩ := kept_com h hm2
  have hstop : ¬ ((l[i]'hil).kind = 10 ∨ (l[i]'hil).kind = 12) := fun hk => by
    obtain ⟨m', a, g1, g2, g3⟩ := h.stopped hil hk
    have : m' = m := by omega
    subst this
    rw [getD_of_get? g2, g3] at hmc
    cases hmc
  refine ⟨fun hk => ?_, fun hk => hstop (.inl hk), fun hk => hstop (.inr hk)⟩
  have := ofI_eq hil
  unfold ofH at this
  rw [if_neg (by omega), if_pos hk] at this
  omega
theorem byF_nil (l : List Ev) (k : Nat) : byF l [] k = [] := by
  unfold byF
  rw [List.filterMap_eq_nil_iff]
  intro i _
  simp [inK]
end Go.Proofs.YtnmbacleaijhmaaDoor
/-
  Attempts in memory, read as data: pairs, attempts, a slice of them. Nothing of the program.
-/
namespace Go.Proofs.YtnmbacleaijhmaaDoor
set_option linter.unusedVariables false
set_option linter.unusedSimpArgs false
set_option linter.unusedVariables false
open Go Go.RowKit
def B64 (n : Int) : Prop := -9223372036854775808 ≤ n ∧ n ≤ 9223372036854775807
def RdPairs (w : World) (l : List (Int × Int)) (v : Value) : Prop :=
  ∃ a cap, v = .slice a l.length cap ∧ l.length ≤ 9223372036854775807 ∧ (∀ p ∈ l, B64 p.1 ∧ B64 p.2) ∧ (l ≠ [] → ∃ b o, a = some ⟨b, o, none⟩ ∧ ∀ k (h : k < l.length), w.cell? ⟨b, o + k * 2, none⟩ = some (.int .i64 l[k].1) ∧ w.cell? ⟨b, o + k * 2 + 1, none⟩ = some (.int .i64 l[k].2))
structure AttB (a : Att) : Prop where
  th : B64 a.th
  tx : B64 a.tx
  from_ : B64 a.from_
  to_ : B64 a.to_
  rv : B64 a.rv
  wv : B64 a.wv
structure AttC (w : World) (b o : Nat) (a : Att) (r u : Value) : Prop where
  ok : AttB a
  c0 : w.cell? ⟨b, o, none⟩ = some (.int .i64 a.th)
  c1 : w.cell? ⟨b, o + 1, none⟩ = some (.int .i64 a.tx)
  c2 : w.cell? ⟨b, o + 2, none⟩ = some (.int .i64 a.from_)
  c3 : w.cell? ⟨b, o + 3, none⟩ = some (.int .i64 a.to_)
  c4 : w.cell? ⟨b, o + 4, none⟩ = some (.int .i64 a.rv)
  c5 : w.cell? ⟨b, o + 5, none⟩ = some (.int .i64 a.wv)
  c6 : w.cell? ⟨b, o + 6, none⟩ = some (.bool a.com)
  c7 : w.cell? ⟨b, o + 7, none⟩ = some r
  c8 : w.cell? ⟨b, o + 8, none⟩ = some u
  reads : RdPairs w a.reads r
  writes : RdPairs w a.writes u
def RdAtts (w : World) (L : List Att) (v : Value) : Prop :=
  ∃ a cap, v = .slice a L.length cap ∧ L.length ≤ 9223372036854775807 ∧ (L ≠ [] → ∃ b o, a = some ⟨b, o, none⟩ ∧ ∀ k (h : k < L.length), ∃ r u, AttC w b (o + k * 9) L[k] r u)
theorem RdPairs.below {w w' : World} (hb : Below w.heap.size w w') {l : List (Int × Int)} {v : Value} (h : RdPairs w l v) : RdPairs w' l v := by
  obtain ⟨a, cap, h1, h2, h3, h4⟩ := h
  refine ⟨a, cap, h1, h2, h3, fun hn => ?_⟩
  obtain ⟨b, o, h5, h6⟩ := h4 hn
  exact ⟨b, o, h5, fun k hk => ⟨later hb (h6 k hk).1, later hb (h6 k hk).2⟩⟩
theorem AttC.below {w w' : World} (hb : Below w.heap.size w w') {b o : Nat} {a : Att} {r u : Value} (h : AttC w b o a r u) : AttC w' b o a r u :=
  ⟨h.ok, later hb h.c0, later hb h.c1, later hb h.c2, later hb h.c3, later hb h.c4, later hb h.c5, later hb h.c6, later hb h.c7, later hb h.c8, h.reads.below hb, h.writes.below hb⟩
theorem RdAtts.below {w w' : World} (hb : Below w.heap.size w w') {L : List Att} {v : Value} (h : RdAtts w L v) : RdAtts w' L v := by
  obtain ⟨a, cap, h1, h2, h4⟩ := h
  refine ⟨a, cap, h1, h2, fun hn => ?_⟩
  obtain ⟨b, o, h5, h6⟩ := h4 hn
  refine ⟨b, o, h5, fun k hk => ?_⟩
  obtain ⟨r, u, h7⟩ := h6 k hk
  exact ⟨r, u, h7.below hb⟩
theorem RdPairs.shape {w : World} {l : List (Int × Int)} {v : Value} (h : RdPairs w l v) : ∃ a cap, v = .slice a l.length cap := by
  obtain ⟨a, cap, h1, _⟩ := h
  exact ⟨a, cap, h1⟩
/-- What lies below a number stays, if all but what is not below it stays. -/
theorem low_cell {n₀ : Nat} {w w' : World} (hb : Below n₀ w w') {b o : Nat} {v : Value} (hl : b < n₀) (h : w.cell? ⟨b, o, none⟩ = some v) : w'.cell? ⟨b, o, none⟩ = some v := by
  rw [hb.cell (p := ⟨b, o, none⟩) hl]; exact h
end Go.Proofs.YtnmbacleaijhmaaDoor
