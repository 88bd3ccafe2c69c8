/-
  What is kept of attempts, as a row of steps that ends. Nothing of the program.
-/
import Derived.Test.YtcdgfnocjnampaaSlD
namespace Go.Proofs.Ytcdgfnocjnampaa
set_option linter.unusedVariables false
set_option linter.unusedSimpArgs false
set_option linter.unusedVariables false
def keepF (L : List Att) : Nat → List Nat → List Nat → List Nat
  | 0, _, out => out
  | _ + 1, [], out => out
  | n + 1, i :: todo, out => if i ∈ out then keepF L n todo out else keepF L n (todo ++ asked L (L.getD i Att.zero)) (insN out i)
def maxF : List Nat → Nat
  | [] => 0
  | n :: l => max n (maxF l)
theorem maxF_ge : ∀ {l : List Nat} {n : Nat}, n ∈ l → n ≤ maxF l
  | m :: l, n, h => by
    unfold maxF
    rcases List.mem_cons.1 h with rfl | h
    · omega
    · have := maxF_ge h; omega
theorem maxF_le {B : Nat} : ∀ {l : List Nat}, (∀ n ∈ l, n ≤ B) → maxF l ≤ B
  | [], _ => Nat.zero_le _
  | m :: l, h => by
    unfold maxF
    have := h m (List.mem_cons_self ..)
    have := maxF_le (l := l) (fun n hn => h n (List.mem_cons_of_mem _ hn))
    omega
/-- What one asks at most. -/
def askN (L : List Att) : Nat := maxF (L.map fun a => (asked L a).length)
theorem askN_ge {L : List Att} {i : Nat} (h : i < L.length) : (asked L (L.getD i Att.zero)).length ≤ askN L := by
  refine maxF_ge (List.mem_map.2 ⟨L[i], List.getElem_mem h, ?_⟩)
  rw [List.getD_eq_getElem?_getD, List.getElem?_eq_getElem h]; rfl
theorem filterMap_len {α β : Type} (f : α → Option β) (l : List α) : (l.filterMap f).length ≤ l.length := List.length_filterMap_le _ _
theorem asked_len (L : List Att) (a : Att) : (asked L a).length ≤ a.reads.length + L.length := by
  unfold asked askedR askedT
  rw [List.length_append]
  have h1 := filterMap_len (fun p : Int × Int => if 0 ≤ writerL L p.1 a.rv then some (writerL L p.1 a.rv).toNat else none) a.reads
  have h2 := List.length_filter_le (fun i => beforeB a (L.getD i Att.zero)) (List.range L.length)
  rw [List.length_range] at h2
  omega
theorem roots_len (L : List Att) (vars : List Int) : (roots L vars).length ≤ vars.length + L.length := by
  unfold roots rootsV rootsO
  rw [List.length_append]
  have h1 := filterMap_len (fun v : Int => if 0 ≤ writerL L v (topL L) then some (writerL L v (topL L)).toNat else none) vars
  have h2 := List.length_filter_le (fun i => openB (L.getD i Att.zero)) (List.range L.length)
  rw [List.length_range] at h2
  omega
theorem askN_le {L : List Att} {B : Nat} (h : ∀ a ∈ L, a.reads.length ≤ B) : askN L ≤ B + L.length := by
  refine maxF_le fun n hn => ?_
  obtain ⟨a, ha, rfl⟩ := List.mem_map.1 hn
  have := asked_len L a
  have := h a ha
  omega
theorem out_len {L : List Att} {R : Nat → Prop} (hR : ∀ i, R i → i < L.length) {todo out : List Nat} (h : KeepI L R todo out) : out.length ≤ L.length := sorted_len h.sorted (fun i hi => reach_lt hR (h.outR i hi))
theorem take_meas {a b n A t s : Nat} (h1 : b = a + 1) (h2 : b ≤ n) (hs : s ≤ A) : (n - b) * (A + 1) + (t + s) < (n - a) * (A + 1) + (t + 1) := by
  obtain ⟨d, rfl⟩ : ∃ d, n = b + d := ⟨n - b, by omega⟩
  subst h1
  have e1 : a + 1 + d - (a + 1) = d := by omega
  have e2 : a + 1 + d - a = d + 1 := by omega
  rw [e1, e2, Nat.succ_mul]
  omega
theorem keepF_is {L : List Att} {R : Nat → Prop} (hR : ∀ i, R i → i < L.length) : ∀ (n : Nat) (todo out : List Nat), KeepI L R todo out → (L.length - out.length) * (askN L + 1) + todo.length ≤ n → KeepI L R [] (keepF L n todo out)
  | 0, todo, out, h, hm => by
    have : todo = [] := List.eq_nil_of_length_eq_zero (by omega)
    subst this
    exact h
  | n + 1, [], out, h, hm => h
  | n + 1, i :: todo, out, h, hm => by
    unfold keepF
    rw [List.length_cons] at hm
    by_cases hi : i ∈ out
    · rw [if_pos hi]
      exact keepF_is hR n todo out (h.skip hi) (by omega)
    · rw [if_neg hi]
      have h' := h.take hi
      have hl := out_len hR h'
      have hil : i < L.length := reach_lt hR (h.todoR i (List.mem_cons_self ..))
      refine keepF_is hR n _ _ h' ?_
      rw [List.length_append]
      have := take_meas (t := todo.length) (insN_len out i) hl (askN_ge hil)
      omega
def keptL (L : List Att) (vars : List Int) : List Nat := keepF L (L.length * (askN L + 1) + (roots L vars).length) (roots L vars) []
theorem keptL_is (L : List Att) (vars : List Int) : KeptIs L vars (keptL L vars) := by
  have h := keepF_is (L := L) (R := (· ∈ roots L vars)) (fun _ => roots_lt) (L.length * (askN L + 1) + (roots L vars).length) (roots L vars) [] (KeepI.start L vars) (by simp)
  exact ⟨h.sorted, h.done⟩
theorem keepI_kept {L : List Att} {vars : List Int} {out : List Nat} (h : KeepI L (· ∈ roots L vars) [] out) : out = keptL L vars := KeptIs.one (L := L) (vars := vars) ⟨h.sorted, h.done⟩ (keptL_is L vars)
end Go.Proofs.Ytcdgfnocjnampaa
