/-
  Reckoning a program in the kernel: regions that draw their order. Nothing of the program.
-/
import Derived.Test.YtonckpblbdopmaaRug
namespace Go.Proofs.Ytonckpblbdopmaa.Rk
set_option linter.unusedVariables false
open Go
set_option maxHeartbeats 1000000
set_option linter.unusedSimpArgs false

section
variable {w0 : World} {P : Program} {ops : Array Oper} {Q : Exit → Act → World → Prop}
theorem getD_set {listed : Array Bool} {i : Nat} (hi : i < listed.size) (k : Nat) (d : Bool) : (listed.setIfInBounds i true).getD k d = if k = i then true else listed.getD k d := by
  by_cases h : k = i
  · subst h; simp [Array.getD, hi]
  · simp only [Array.getD_eq_getD_getElem?, Array.getElem?_setIfInBounds, if_neg (Ne.symm h), if_neg h]
theorem getD_in {listed : Array Bool} {i : Nat} (hi : i < listed.size) (d d' : Bool) : listed.getD i d = listed.getD i d' := by simp [Array.getD, hi]
/-- A region in any order, by an invariant over what is done. -/
theorem wpAnyIn_inv {F : Fence} {n : Nat} (Inv : (Nat → Bool) → Act → World → Prop) (hback : backs ops = true)
    (hstep : ∀ (D : Nat → Bool) (i : Nat) (o : Oper) (act : Act) (W : World), ops[i]? = some o → D i = false → (∀ e ∈ o.after.toList, Region.binds .any e = true → D e.on = true) → Inv D act W →
      wpOpIn F n P ops Q i (fun act' W' => Inv (fun k => if k = i then true else D k) act' W') act W)
    (hdone : ∀ D act W, Inv D act W → (∀ i, i < ops.size → D i = true) → Q .normal act W) :
    ∀ (fuel : Nat) (listed : Array Bool) (act : Act) (W : World), listed.size = ops.size → ((List.range ops.size).filter fun i => !listed.getD i true).length ≤ fuel → Inv (fun k => listed.getD k false) act W →
      wpAnyIn F n P .any ops Q fuel listed act W := by
  have hall : ∀ (listed : Array Bool), listed.size = ops.size → Region.ready .any ops listed = [] → ∀ i, i < ops.size → listed.getD i false = true := by
    intro listed hsz hr i
    induction i using Nat.strongRecOn with
    | _ i ih =>
      intro hi
      cases hl : listed.getD i false with
      | true => rfl
      | false =>
        exfalso
        have hmem : i ∈ Region.ready .any ops listed := by
          unfold Region.ready
          refine List.mem_filter.2 ⟨List.mem_range.2 hi, ?_⟩
          rw [getD_in (by rw [hsz]; exact hi) true false, hl]
          obtain ⟨o, ho⟩ : ∃ o, ops[i]? = some o := ⟨_, Array.getElem?_eq_getElem hi⟩
          rw [ho]
          simp only [Bool.not_false, Option.map_some, Option.getD_some, Bool.true_and]
          rw [← Array.all_toList, List.all_eq_true]
          intro e he
          have hb := List.all_eq_true.1 hback i (List.mem_range.2 hi)
          rw [ho] at hb
          have hb := List.all_eq_true.1 hb e he
          cases hbd : Region.binds .any e with
          | false => rfl
          | true =>
            rw [hbd] at hb
            simp only [Bool.not_true, Bool.false_or, decide_eq_true_eq] at hb
            rw [ih e.on hb (by omega)]
            rfl
        rw [hr] at hmem
        cases hmem
  intro fuel
  induction fuel with
  | zero =>
    intro listed act W hsz hf hI
    have hdn : ∀ i, i < ops.size → listed.getD i false = true := by
      intro i hi
      cases h : listed.getD i false with
      | true => rfl
      | false =>
        have hm : i ∈ (List.range ops.size).filter fun i => !listed.getD i true := List.mem_filter.2 ⟨List.mem_range.2 hi, by rw [getD_in (by rw [hsz]; exact hi) true false, h]; rfl⟩
        have : 0 < ((List.range ops.size).filter fun i => !listed.getD i true).length := List.length_pos_of_mem hm
        omega
    refine ⟨?_, hdone _ act W hI hdn⟩
    unfold Region.ready
    rw [List.filter_eq_nil_iff]
    intro i hi
    have hi' := List.mem_range.1 hi
    rw [getD_in (by rw [hsz]; exact hi') true false, hdn i hi']
    simp
  | succ fuel ih =>
    intro listed act W hsz hf hI
    refine ⟨fun hr => hdone _ act W hI (hall listed hsz hr), fun i hi => ?_⟩
    unfold Region.ready at hi
    obtain ⟨hi1, hi2⟩ := List.mem_filter.1 hi
    have hi' := List.mem_range.1 hi1
    obtain ⟨o, ho⟩ : ∃ o, ops[i]? = some o := ⟨_, Array.getElem?_eq_getElem hi'⟩
    rw [ho] at hi2
    simp only [Option.map_some, Option.getD_some, Bool.and_eq_true] at hi2
    obtain ⟨hl, hdeps⟩ := hi2
    have hlf : listed.getD i false = false := by rw [getD_in (by rw [hsz]; exact hi') false true]; simpa using hl
    refine wpOpIn_mono ?_ (hstep (fun k => listed.getD k false) i o act W ho hlf (fun e he hbd => ?_) hI)
    · intro act' W' hI'
      refine ih (listed.setIfInBounds i true) act' W' (by simp [hsz]) ?_ ?_
      · have hlt : ((List.range ops.size).filter fun k => !(listed.setIfInBounds i true).getD k true).length < ((List.range ops.size).filter fun k => !listed.getD k true).length := by
          have hsub : ((List.range ops.size).filter fun k => !(listed.setIfInBounds i true).getD k true) = ((List.range ops.size).filter fun k => !listed.getD k true).filter (fun k => decide (k ≠ i)) := by
            rw [List.filter_filter]
            congr 1
            funext k
            rw [getD_set (by rw [hsz]; exact hi')]
            by_cases hk : k = i
            · subst hk; simp
            · simp [hk]
          rw [hsub]
          refine List.length_filter_lt_length_iff_exists.2 ⟨i, List.mem_filter.2 ⟨hi1, hl⟩, by simp⟩
        omega
      · have : (fun k => (listed.setIfInBounds i true).getD k false) = fun k => if k = i then true else listed.getD k false := by
          funext k
          exact getD_set (by rw [hsz]; exact hi') k false
        rw [this]
        exact hI'
    · rw [← Array.all_toList, List.all_eq_true] at hdeps
      have := hdeps e he
      rw [hbd] at this
      simpa using this
/-! ### The last of those that .. -/
open Classical in
noncomputable def lastK (p : Nat → Prop) : Nat → Option Nat
  | 0 => none
  | k + 1 => if p k then some k else lastK p k
theorem lastK_congr {p q : Nat → Prop} : ∀ (n : Nat), (∀ k, k < n → (p k ↔ q k)) → lastK p n = lastK q n
  | 0, _ => rfl
  | n + 1, h => by
    simp only [lastK]
    rw [lastK_congr n (fun k hk => h k (by omega))]
    by_cases hp : p n
    · rw [if_pos hp, if_pos ((h n (by omega)).1 hp)]
    · rw [if_neg hp, if_neg (fun hq => hp ((h n (by omega)).2 hq))]
theorem lastK_cut {p : Nat → Prop} (i : Nat) : ∀ (n : Nat), i ≤ n → (∀ k, i ≤ k → k < n → ¬ p k) → lastK p n = lastK p i
  | 0, hi, _ => by have : i = 0 := by omega
                   subst this; rfl
  | n + 1, hi, h => by
    by_cases he : i = n + 1
    · rw [he]
    · simp only [lastK]
      rw [if_neg (h n (by omega) (by omega)), lastK_cut i n (by omega) (fun k h1 h2 => h k h1 (by omega))]
theorem lastK_some {p : Nat → Prop} : ∀ (n k : Nat), lastK p n = some k → k < n ∧ p k
  | 0, k, h => by cases h
  | n + 1, k, h => by
    simp only [lastK] at h
    split at h
    · cases h; rename_i hp; exact ⟨by omega, hp⟩
    · have := lastK_some n k h; exact ⟨by omega, this.2⟩
theorem lastK_none {p : Nat → Prop} : ∀ (n : Nat), lastK p n = none → ∀ k, k < n → ¬ p k
  | 0, _, k, hk => by omega
  | n + 1, h, k, hk => by
    simp only [lastK] at h
    split at h
    · cases h
    · rename_i hp
      by_cases e : k = n
      · subst e; exact hp
      · exact lastK_none n h k (by omega)
theorem lastK_at {p : Nat → Prop} {n i : Nat} (hi : i < n) (hp : p i) (h : ∀ k, i < k → k < n → ¬ p k) : lastK p n = some i := by
  rw [lastK_cut (i + 1) n (by omega) (fun k h1 h2 => h k (by omega) h2)]
  simp only [lastK]
  rw [if_pos hp]
end
end Go.Proofs.Ytonckpblbdopmaa.Rk
