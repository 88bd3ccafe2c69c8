/-
  Reckoning: frame.Wrap and frame.Unwrap by their contracts.
-/
import Derived.Test.YtonckpblbdopmaaRuT
import Derived.Test.YtonckpblbdopmaaFrL1
namespace Go.Proofs.Ytonckpblbdopmaa.Rk
set_option linter.unusedVariables false
open Go Go.RowKit
set_option maxRecDepth 100000
set_option maxHeartbeats 4000000

/-- A row of bytes, reckoned to the end. -/
noncomputable def nfL {β : Type} : List Nat → (List UInt8 → Option β) → Option β := List.rec (fun k => k []) (fun n _ ih k => fN n fun n => ih fun l => k (UInt8.ofNat n :: l))
theorem nfL_eq {β : Type} : ∀ (l : List Nat) (k : List UInt8 → Option β), nfL l k = k (l.map UInt8.ofNat)
  | [], k => rfl
  | n :: l, k => by
    show (fN n fun n => nfL l fun l => k (UInt8.ofNat n :: l)) = _
    rw [fN_eq, nfL_eq l]
    rfl
/-- The bytes of a text, reckoned to the end. -/
noncomputable def nfS {β : Type} : List UInt8 → (List Nat → Option β) → Option β := List.rec (fun k => k []) (fun n _ ih k => fN n.toNat fun n => ih fun l => k (n :: l))
theorem nfS_eq {β : Type} : ∀ (l : List UInt8) (k : List Nat → Option β), nfS l k = k (l.map UInt8.toNat)
  | [], k => rfl
  | n :: l, k => by
    show (fN n.toNat fun n => nfS l fun l => k (n :: l)) = _
    rw [fN_eq, nfS_eq l]
    rfl
noncomputable def frameO (f : Nat) (args : List AV) : Option AV := match args with
  | [.str l] => Bool.rec none (Bool.rec
      (Bool.rec none (nfS l fun l => match unwrapL l with | (a, n, e) => nfL a fun a => fN n fun n => fN e fun e => some (.tup [.str a, .int .i64 (.ofNat n), .int .i64 (.ofNat e)])) (Nat.beq f 25))
      (nfS l fun l => match wrapL l with | (a, e) => nfL a fun a => fN e fun e => some (.tup [.str a, .int .i64 (.ofNat e)]))
      (Nat.beq f 20)) (Nat.ble l.length 9223372036854775807)
  | _ => none
theorem frameO_ok {w0 : World} : OrcOk0 w0 Try.prog frameO := by
  intro f args v h
  unfold frameO at h
  split at h
  · rename_i l
    obtain ⟨hsz, h1⟩ := rec_some h
    have hsz := Nat.le_of_ble_eq_true hsz
    rcases rec_two h1 with ⟨hf, h2⟩ | ⟨hf, h2⟩
    · obtain ⟨hf, h2⟩ := rec_some h2
      have hf := Nat.eq_of_beq_eq_true hf
      subst hf
      rw [nfS_eq] at h2
      rcases hw : unwrapL (l.map UInt8.toNat) with ⟨a, n, e⟩
      rw [hw] at h2
      simp only [nfL_eq, fN_eq] at h2
      cases h2
      refine ⟨⟨Try.f25, Try.func25, rfl, by decide +kernel⟩, fun m W vals hold hl => ?_⟩
      obtain ⟨x, l1, rfl, hx, hl⟩ := hl.inv_cons
      have := hl.inv_nil
      subst this
      cases hx
      refine (unwrap_x ⟨⟨l⟩⟩ W hsz).mono fun e' W' ⟨he, hb⟩ => ?_
      have hby : byt ⟨⟨l⟩⟩ = l.map UInt8.toNat := rfl
      rw [hby, hw] at he
      refine ⟨_, he, ?_, hb⟩
      exact .tup rfl (fun i a v h1 h2 => (LR.cons (.str _) (LR.cons (.int _ _) (LR.cons (.int _ _) (LR.nil m)))).2 i a v h1 h2)
    · have hf := Nat.eq_of_beq_eq_true hf
      subst hf
      rw [nfS_eq] at h2
      rcases hw : wrapL (l.map UInt8.toNat) with ⟨a, e⟩
      rw [hw] at h2
      simp only [nfL_eq, fN_eq] at h2
      cases h2
      refine ⟨⟨Try.f20, Try.func20, rfl, by decide +kernel⟩, fun m W vals hold hl => ?_⟩
      obtain ⟨x, l1, rfl, hx, hl⟩ := hl.inv_cons
      have := hl.inv_nil
      subst this
      cases hx
      refine (wrap_x ⟨⟨l⟩⟩ W hsz).mono fun e' W' ⟨he, hb⟩ => ?_
      have hby : byt ⟨⟨l⟩⟩ = l.map UInt8.toNat := rfl
      rw [hby, hw] at he
      refine ⟨_, he, ?_, hb⟩
      exact .tup rfl (fun i a v h1 h2 => (LR.cons (.str _) (LR.cons (.int _ _) (LR.nil m))).2 i a v h1 h2)
  · cases h
end Go.Proofs.Ytonckpblbdopmaa.Rk
