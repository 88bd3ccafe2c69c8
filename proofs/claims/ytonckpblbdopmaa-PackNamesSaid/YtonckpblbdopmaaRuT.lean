/-
  Reckoning: the world as it stands ahead of a call that reads tables: blocks of globals, with what stands in them.
-/
import Derived.Test.YtonckpblbdopmaaRuZ
namespace Go.Proofs.Ytonckpblbdopmaa.Rk
set_option linter.unusedVariables false
open Go Go.RowKit

noncomputable def tabH : List (Nat × List AV) → Tri AObj
  | [] => .leaf
  | (n, cs) :: l => (tabH l).set (some (.ro cs)) (pt n)
noncomputable def stT (l : List (Nat × List AV)) : St := ⟨tabH l, 64, [], []⟩
theorem tabH_get {n : Nat} {o : AObj} : ∀ (l : List (Nat × List AV)), (tabH l).get (pt n) = some o → ∃ cs, o = .ro cs ∧ (n, cs) ∈ l
  | [], h => by rw [show tabH [] = .leaf from rfl, Tri.get_leaf] at h; cases h
  | (k, cs) :: l, h => by
    by_cases hk : pt k = pt n
    · have := pt_inj hk
      subst this
      rw [show tabH ((k, cs) :: l) = (tabH l).set (some (.ro cs)) (pt k) from rfl, Tri.set_same] at h
      cases h
      exact ⟨cs, rfl, List.mem_cons_self ..⟩
    · rw [show tabH ((k, cs) :: l) = (tabH l).set (some (.ro cs)) (pt k) from rfl, Tri.set_other _ _ _ _ hk] at h
      obtain ⟨c, h1, h2⟩ := tabH_get l h
      exact ⟨c, h1, List.mem_cons_of_mem _ h2⟩
/-- A table of the world: its block's first cells. -/
def TabIn (W : World) (n : Nat) (cs : List AV) : Prop := n < 64 ∧ ∃ c el fr, W.heap[n]? = some (.cells c el fr) ∧ cs.length ≤ c.size ∧ LR m00 cs (c.toList.take cs.length)
theorem goodT {W : World} {P : Program} {l : List (Nat × List AV)} (hG : P.globals.size ≤ 64) (hl : ∀ n cs, (n, cs) ∈ l → TabIn W n cs) : Good W P P.globals.size m00 (stT l).H W := by
  have hn : ∀ n o, (stT l).H n = some o → ∃ cs, o = .ro cs ∧ (n, cs) ∈ l := fun n o h => tabH_get l h
  have hv : ∀ n, live ((stT l).H n) = true → False := fun n h => by
    cases ho : (stT l).H n with
    | none => rw [ho] at h; cases h
    | some o =>
      obtain ⟨cs, rfl, _⟩ := hn n o ho
      rw [ho] at h; cases h
  refine ⟨fun n o h ho => ?_, fun n cs h => ?_, fun n n' b h => (hv n h).elim, fun g hg => ?_, fun k ob h => h⟩
  · obtain ⟨cs, rfl, _⟩ := hn n o h
    cases ho
  · obtain ⟨cs', h1, h2⟩ := hn n _ h
    cases h1
    obtain ⟨h3, c, el, fr, h4, h5, h6⟩ := hl n cs h2
    exact ⟨n, c, el, fr, if_pos h3, h4, h5, h6⟩
  · exact if_pos (by omega)
theorem freshT {l : List (Nat × List AV)} : ∀ k, (stT l).nx ≤ k → m00 k = none := fun k hk => if_neg (by show ¬ k < 64; exact Nat.not_lt.2 hk)
end Go.Proofs.Ytonckpblbdopmaa.Rk
