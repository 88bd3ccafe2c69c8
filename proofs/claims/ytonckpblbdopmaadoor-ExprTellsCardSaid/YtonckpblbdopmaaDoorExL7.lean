/-
  ExprTells whole: the branches.
-/
import Derived.Test.YtonckpblbdopmaaDoorExL6
namespace Go.Proofs.YtonckpblbdopmaaDoor
set_option linter.unusedVariables false
open Go Go.RowKit

set_option maxRecDepth 100000 in
set_option maxHeartbeats 4000000 in
theorem exprTells_any (e d : Ex) (n : Int) (lo go : List Int) (w : World) (v0 v1 v2 u0 u1 u2 vl vg : Value)
    (hr : RdEx w e v0 v1 v2) (hd : RdEx w d u0 u1 u2) (hlo : RdInts w lo vl) (hgo : RdInts w go vg) (ho : OpsAt w) :
    Calls Tryd.prog 9 #[.agg #[v0, v1, v2], .agg #[u0, u1, u2], .int .i64 n, vl, vg] w
      fun e' w' => e' = .returned (.bool true) ∧ Below w.heap.size w w' := by
  obtain ⟨al, capl, rfl, hbl, -, -⟩ := id hlo
  obtain ⟨ag, capg, rfl, hbg, -, -⟩ := id hgo
  obtain ⟨a, cap, rfl, rfl, rfl⟩ := id hr.shape
  obtain ⟨a', cap', rfl, rfl, rfl⟩ := id hd.shape
  by_cases hok : largeS e = false ∧ largeS d = false ∧ lo.length ≤ 100 ∧ go.length ≤ 100
  · exact exprTells_core e d n lo go w _ _ _ _ _ _ al ag capl capg hr hd hlo hgo ho hok.2.2.1 hok.2.2.2 hok.1 hok.2.1
  · have hA := ext_alloc (ext_alloc (ext_refl w) (.cells #[.int .u8 e.op, .int .i64 e.n, .slice a e.args.length cap] 29)) (.cells #[.int .u8 d.op, .int .i64 d.n, .slice a' d.args.length cap'] 29)
    have HLE := hid (fun w v0 v1 v2 h => large_any e w v0 v1 v2 h)
    have HLD := hid (fun w v0 v1 v2 h => large_any d w v0 v1 v2 h)
    have HR := hid hr
    have HD := hid hd
    have HO := hid ho
    clear hr hd hlo hgo ho
    cases h1 : largeS e
    · rw [h1] at HLE hok
      clear h1
      cases h2 : largeS d
      · rw [h2] at HLD hok
        clear h2
        have h3 : 100 < lo.length ∨ 100 < go.length := by
          rcases Nat.lt_or_ge 100 lo.length with h | h
          · exact Or.inl h
          · rcases Nat.lt_or_ge 100 go.length with h' | h'
            · exact Or.inr h'
            · exact absurd ⟨rfl, rfl, h, h'⟩ hok
        clear hok
        rcases Nat.lt_or_ge 100 lo.length with h4 | h4
        · go_enter Tryd.func9, Tryd.ntmps9
          go_wp2_with fail
          refine (HLE.out _ _ _ _ (HR.out.below hA)).mono ?_
          rintro e' w1 ⟨rfl, hb1⟩
          have hc1 := bcell hb1
          go_wp2_with fail
          refine (HLD.out _ _ _ _ (HD.out.below (by repeat (first | assumption | exact ext_refl _ | refine ext_drew ?_ | refine ext_alloc ?_ _ | refine ext_trans ?_ (by assumption))))).mono ?_
          rintro e' w2 ⟨rfl, hb2⟩
          go_wp2_with fail
          refine (awake_any _ (HO.out.below (by repeat (first | assumption | exact ext_refl _ | refine ext_drew ?_ | refine ext_alloc ?_ _ | refine ext_trans ?_ (by assumption))))).mono ?_
          rintro e' w3 ⟨rfl, hb3⟩
          go_wp2_with fail
          go_ret
          exact ⟨rfl, by repeat (first | assumption | exact ext_refl _ | refine ext_drew ?_ | refine ext_alloc ?_ _ | refine ext_trans ?_ (by assumption))⟩
        · have h5 : 100 < go.length := by omega
          go_enter Tryd.func9, Tryd.ntmps9
          go_wp2_with fail
          refine (HLE.out _ _ _ _ (HR.out.below hA)).mono ?_
          rintro e' w1 ⟨rfl, hb1⟩
          have hc1 := bcell hb1
          go_wp2_with fail
          refine (HLD.out _ _ _ _ (HD.out.below (by repeat (first | assumption | exact ext_refl _ | refine ext_drew ?_ | refine ext_alloc ?_ _ | refine ext_trans ?_ (by assumption))))).mono ?_
          rintro e' w2 ⟨rfl, hb2⟩
          go_wp2_with fail
          refine (awake_any _ (HO.out.below (by repeat (first | assumption | exact ext_refl _ | refine ext_drew ?_ | refine ext_alloc ?_ _ | refine ext_trans ?_ (by assumption))))).mono ?_
          rintro e' w3 ⟨rfl, hb3⟩
          go_wp2_with fail
          go_ret
          exact ⟨rfl, by repeat (first | assumption | exact ext_refl _ | refine ext_drew ?_ | refine ext_alloc ?_ _ | refine ext_trans ?_ (by assumption))⟩
      · rw [h2] at HLD
        clear h2 hok
        go_enter Tryd.func9, Tryd.ntmps9
        go_wp2_with fail
        refine (HLE.out _ _ _ _ (HR.out.below hA)).mono ?_
        rintro e' w1 ⟨rfl, hb1⟩
        have hc1 := bcell hb1
        go_wp2_with fail
        refine (HLD.out _ _ _ _ (HD.out.below (by repeat (first | assumption | exact ext_refl _ | refine ext_drew ?_ | refine ext_alloc ?_ _ | refine ext_trans ?_ (by assumption))))).mono ?_
        rintro e' w2 ⟨rfl, hb2⟩
        go_wp2_with fail
        refine (awake_any _ (HO.out.below (by repeat (first | assumption | exact ext_refl _ | refine ext_drew ?_ | refine ext_alloc ?_ _ | refine ext_trans ?_ (by assumption))))).mono ?_
        rintro e' w3 ⟨rfl, hb3⟩
        go_wp2_with fail
        go_ret
        exact ⟨rfl, by repeat (first | assumption | exact ext_refl _ | refine ext_drew ?_ | refine ext_alloc ?_ _ | refine ext_trans ?_ (by assumption))⟩
    · rw [h1] at HLE
      clear h1 hok
      go_enter Tryd.func9, Tryd.ntmps9
      go_wp2_with fail
      refine (HLE.out _ _ _ _ (HR.out.below hA)).mono ?_
      rintro e' w1 ⟨rfl, hb1⟩
      go_wp2_with fail
      refine (awake_any _ (HO.out.below (by repeat (first | assumption | exact ext_refl _ | refine ext_drew ?_ | refine ext_alloc ?_ _ | refine ext_trans ?_ (by assumption))))).mono ?_
      rintro e' w3 ⟨rfl, hb3⟩
      go_wp2_with fail
      go_ret
      exact ⟨rfl, by repeat (first | assumption | exact ext_refl _ | refine ext_drew ?_ | refine ext_alloc ?_ _ | refine ext_trans ?_ (by assumption))⟩
end Go.Proofs.YtonckpblbdopmaaDoor
