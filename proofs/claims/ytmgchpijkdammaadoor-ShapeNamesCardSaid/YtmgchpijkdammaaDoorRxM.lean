/-
  Reckoning: event.May by its contract.
-/
import Derived.Test.YtmgchpijkdammaaDoorRtXp
import Derived.Test.YtmgchpijkdammaaDoorShN
namespace Go.Proofs.YtmgchpijkdammaaDoor.Rk
set_option linter.unusedVariables false
open Go Go.RowKit
set_option maxRecDepth 100000
set_option maxHeartbeats 4000000

def evOkB (e : Ev) : Bool := decide (0 ≤ e.kind ∧ e.kind ≤ 255) && decide (-9223372036854775808 ≤ e.th ∧ e.th ≤ 9223372036854775807) && decide (-9223372036854775808 ≤ e.tx ∧ e.tx ≤ 9223372036854775807) && decide (-9223372036854775808 ≤ e.at_ ∧ e.at_ ≤ 9223372036854775807) &&
  decide (-9223372036854775808 ≤ e.v ∧ e.v ≤ 9223372036854775807) && decide (-9223372036854775808 ≤ e.x ∧ e.x ≤ 9223372036854775807) && decide (0 ≤ e.why ∧ e.why ≤ 255)
theorem evOkB_spec {e : Ev} (h : evOkB e = true) : EvOk e := by
  simp only [evOkB, Bool.and_eq_true, decide_eq_true_eq] at h
  obtain ⟨⟨⟨⟨⟨⟨h1, h2⟩, h3⟩, h4⟩, h5⟩, h6⟩, h7⟩ := h
  exact ⟨h1, h2, h3, h4, h5, h6, h7⟩
/-- event.May, as its contract has it. -/
noncomputable def mayO (f : Nat) (args : List AV) : Option AV := match args with
  | [.agg [.int .u8 k, .int .i64 th, .int .i64 tx, .int .i64 at_, .int .i64 v, .int .i64 x, .int .u8 why], .int .i64 T, .int .i64 V, .int .i64 S] =>
    Bool.rec none (Bool.rec none (mkB (mayE ⟨k, th, tx, at_, v, x, why⟩ T V S)) (evOkB ⟨k, th, tx, at_, v, x, why⟩)) (Nat.beq f 32)
  | _ => none
theorem mayO_ok {w0 : World} (hK : KindsAt w0) : OrcOk0 w0 Tryd.prog mayO := by
  intro f args v h
  unfold mayO at h
  split at h
  · rename_i k th tx at_ vv x why T V S
    obtain ⟨h1, h2⟩ := rec_some h
    obtain ⟨h3, h4⟩ := rec_some h2
    have hf := Nat.eq_of_beq_eq_true h1
    subst hf
    rw [mkB_eq] at h4
    cases h4
    refine ⟨⟨Tryd.f32, Tryd.func32, rfl, by decide +kernel⟩, fun m W vals hold hl => ?_⟩
    obtain ⟨a, l1, rfl, ha, hl⟩ := hl.inv_cons
    obtain ⟨b, l2, rfl, hb, hl⟩ := hl.inv_cons
    obtain ⟨c, l3, rfl, hc, hl⟩ := hl.inv_cons
    obtain ⟨d, l4, rfl, hd, hl⟩ := hl.inv_cons
    have := hl.inv_nil
    subst this
    cases hb; cases hc; cases hd
    cases ha with
    | agg hal hav =>
      rename_i cs
      have hcs : LR m [.int .u8 k, .int .i64 th, .int .i64 tx, .int .i64 at_, .int .i64 vv, .int .i64 x, .int .u8 why] cs := ⟨hal, hav⟩
      obtain ⟨c1, r1, rfl, q1, hcs⟩ := hcs.inv_cons
      obtain ⟨c2, r2, rfl, q2, hcs⟩ := hcs.inv_cons
      obtain ⟨c3, r3, rfl, q3, hcs⟩ := hcs.inv_cons
      obtain ⟨c4, r4, rfl, q4, hcs⟩ := hcs.inv_cons
      obtain ⟨c5, r5, rfl, q5, hcs⟩ := hcs.inv_cons
      obtain ⟨c6, r6, rfl, q6, hcs⟩ := hcs.inv_cons
      obtain ⟨c7, r7, rfl, q7, hcs⟩ := hcs.inv_cons
      have := hcs.inv_nil
      subst this
      cases q1; cases q2; cases q3; cases q4; cases q5; cases q6; cases q7
      have hKW : KindsAt W := by
        have hcell : ∀ (a : Addr) (u : Value), w0.cell? a = some u → W.cell? a = some u := fun a u hu => by
          unfold World.cell? at hu ⊢
          cases hx : w0.heap[a.block]? with
          | none => rw [hx] at hu; cases hu
          | some ob => rw [hold _ _ hx]; rw [hx] at hu; exact hu
        intro k fs hk
        obtain ⟨a, cap, h1, h2, h3⟩ := hK k fs hk
        refine ⟨a, cap, hcell _ _ h1, h2, fun hne => ?_⟩
        obtain ⟨b, o, h4, h5⟩ := h3 hne
        exact ⟨b, o, h4, fun i hi => hcell _ _ (h5 i hi)⟩
      refine (may_any ⟨k, th, tx, at_, vv, x, why⟩ T V S W (evOkB_spec h3) hKW).mono fun e W' ⟨he, hb⟩ => ?_
      exact ⟨_, he, .bool _, hb⟩
  · cases h
end Go.Proofs.YtmgchpijkdammaaDoor.Rk
