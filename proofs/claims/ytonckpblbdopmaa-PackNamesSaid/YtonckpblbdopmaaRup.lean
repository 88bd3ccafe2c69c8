/-
  Reckoning a program in the kernel: a call that comes to true, and turns nothing that was there. Nothing of the program.
-/
import Derived.Test.YtonckpblbdopmaaRuo
import Derived.Below
namespace Go.Proofs.Ytonckpblbdopmaa.Rk
set_option linter.unusedVariables false
open Go Go.RowKit
set_option maxHeartbeats 2000000
set_option linter.unusedSimpArgs false

section
variable {w0 : World} {P : Program} {ft : Tri EFn} {s s' : St} {m : Tl} {W : World}
theorem reckon {O : OrcT} (hft : FTok P ft) (hO : OrcOk w0 P O) {n f : Nat} {args : List AV} {v : AV} {vals : List Value} {R : Ending → World → Prop} (h : clE O ft (ev O ft n) f args s = some (v, s')) (hg : Good w0 P P.globals.size m s.H W) (hfr : ∀ k, s.nx ≤ k → m k = none) (hl : LR m args vals)
    (hR : ∀ Wr m' v' W', s'.wl = Wr ++ s.wl → Stp w0 P P.globals.size s s' Wr m m' s.H W W' → VR m' v v' → R (.returned v') W') : Calls P f ⟨vals⟩ W R := by
  obtain ⟨_, T, Wr, g, hrun⟩ := clE_ok (code_ok hft hO n).1 hft hO _ _ _ _ _ h
  exact callsIn_wide.1 (hrun m s.H W vals R hg (fun _ _ _ => rfl) (fun k hk _ => hfr k hk) hl (fun m' v' W' hst hv => hR Wr m' v' W' g.wl hst hv))
noncomputable def newOnly (k : Nat) : List Nat → Bool := List.rec true (fun x _ ih => Bool.rec false ih (Nat.ble k x))
theorem newOnly_spec {k : Nat} : ∀ {l : List Nat}, newOnly k l = true → ∀ x ∈ l, k ≤ x
  | [], _, x, hx => by cases hx
  | y :: l, h, x, hx => by
    have h' : (Bool.rec false (newOnly k l) (Nat.ble k y) : Bool) = true := h
    cases hb : Nat.ble k y with
    | false => rw [hb] at h'; cases h'
    | true =>
      rw [hb] at h'
      rcases List.mem_cons.1 hx with rfl | hx
      · exact Nat.le_of_ble_eq_true hb
      · exact newOnly_spec h' x hx
/-- A call that comes to true, no block that was there being written. -/
noncomputable def comesTrue (O : OrcT) (ft : Tri EFn) (n f : Nat) (args : List AV) (s : St) : Bool := match clE O ft (ev O ft n) f args s with
  | some (.bool b, s') => Bool.rec false (newOnly s.nx s'.wl) b
  | _ => false
theorem reckon_true {O : OrcT} (hft : FTok P ft) (hO : OrcOk w0 P O) {n f : Nat} {args : List AV} {vals : List Value} (h : comesTrue O ft n f args s = true) (hw : s.wl = []) (hg : Good w0 P P.globals.size m s.H W) (hfr : ∀ k, s.nx ≤ k → m k = none) (hl : LR m args vals) :
    Calls P f ⟨vals⟩ W fun e W' => e = .returned (.bool true) ∧ Below W.heap.size W W' := by
  unfold comesTrue at h
  split at h
  · rename_i b s1 hc
    cases b with
    | false => cases h
    | true =>
      refine reckon hft hO hc hg hfr hl (fun Wr m' v' W' hwl hst hv => ?_)
      cases hv
      refine ⟨rfl, ?_⟩
      rw [hw, List.append_nil] at hwl
      have hnew := newOnly_spec (l := s1.wl) h
      rw [hwl] at hnew
      have hfrm : ∀ (k : Nat) (ob : Obj), W.heap[k]? = some ob → W'.heap[k]? = some ob := fun k ob hk => hst.frame k ob hk (fun x hx hlt => by have := hnew x hx; omega)
      refine ⟨hst.rest.1, hst.rest.2.1, hst.rest.2.2, ?_, fun k hk => ?_⟩
      · rcases Nat.eq_zero_or_pos W.heap.size with h0 | h0
        · omega
        · have := hfrm (W.heap.size - 1) _ (Array.getElem?_eq_getElem (by omega))
          have := (Array.getElem?_eq_some_iff.1 this).1
          omega
      · rw [Array.getElem?_eq_getElem hk]
        exact hfrm k _ (Array.getElem?_eq_getElem hk)
  · cases h
end
end Go.Proofs.Ytonckpblbdopmaa.Rk
