/-
  Walks: the guards of seesawlaw06: parts.
-/
import Derived.Test.YtoeegiaajngpeaaSuW1
namespace Go.Proofs.Ytoeegiaajngpeaa
set_option linter.unusedVariables false
set_option linter.unusedSimpArgs false
set_option linter.unusedVariables false
open Go Go.RowKit
def PartsR (l : List St) (n : Int) (q : Bool) : Prop := 0 ≤ n ∧ n ≤ 3000 ∧ (q = false → (sizeT l : Int) ≤ n ∧ ∀ s ∈ flatT l, okE s)
def PartsP (l : List St) (w : World) (e' : Ending) (w' : World) : Prop := ∃ (n : Int) (q : Bool), e' = .returned (.tuple #[.int .i64 n, .bool q]) ∧ PartsR l n q ∧ Below w.heap.size w w'
set_option maxRecDepth 100000 in
set_option maxHeartbeats 4000000 in
theorem parts_any (s : Nat) : ∀ (l : List St) (w : World) (v : Value) (d : Int), sizeT l < s → RdTx w l v → 0 ≤ d →
    Calls Try.prog 16 #[v, .int .i64 d] w (PartsP l w) := by
  induction s with
  | zero => intro l w v d h; omega
  | succ s ih =>
  intro l w v d hs hr hd0
  obtain ⟨a, cap, rfl, hlen, hx⟩ := hr
  have IH := hid ih; clear ih
  have HS := hid hs; clear hs
  have HX := hid hx; clear hx
  have HLN := hid hlen
  by_cases h1 : 20 < d
  · have k1 : decide (20 < d) = true := decide_eq_true h1
    clear hd0
    go_enter Try.func16, Try.ntmps16
    go_wp2_with fail
    go_ret2
    exact ⟨0, true, rfl, ⟨by omega, by omega, fun h => by cases h⟩, ext_refl _⟩
  have k1 : decide (20 < d) = false := decide_eq_false h1
  by_cases h2 : 500 < l.length
  · have k2 : decide (500 < l.length) = true := decide_eq_true h2
    have k2i : decide (500 < (l.length : Int)) = true := decide_eq_true (by omega)
    clear hd0
    go_enter Try.func16, Try.ntmps16
    go_wp2_with fail
    go_ret2
    exact ⟨0, true, rfl, ⟨by omega, by omega, fun h => by cases h⟩, ext_refl _⟩
  have k2 : decide (500 < l.length) = false := decide_eq_false h2
  have k2i : decide (500 < (l.length : Int)) = false := decide_eq_false (by omega)
  have hw : IntKind.i64.wrap (d + 1) = d + 1 := IntWalk.i64_in _ (by omega)
  have HD1 : Hid (0 ≤ d + 1) := hid (by omega)
  clear hd0 h1 h2
  go_enter Try.func16, Try.ntmps16
  go_wp2_with fail
  go_loopw [6, 7] (fun n i wr => ∃ k m : Nat, k ≤ l.length ∧ i = .int .i64 k ∧ n = .int .i64 (m : Nat) ∧ Hid (m ≤ 3000 ∧ sizeT (l.take k) ≤ m ∧ ∀ s ∈ flatT (l.take k), okE s) ∧ Below w.heap.size w wr) (fun _ i _ => l.length - (intOf i).toNat)
  case atStart => exact ⟨0, 0, Nat.zero_le _, rfl, rfl, hid ⟨by omega, by simp [sizeT], fun s hs => by simp [flatT] at hs⟩, ext_refl _⟩
  case round =>
    obtain ⟨k, m, hk, rfl, rfl, HM, hb⟩ := hrel
    by_cases hlt : k < l.length
    · obtain ⟨q, off, rfl, hrd⟩ := HX.out (by intro h; subst h; simp at hlt)
      obtain ⟨kk, tt, a0, a1, a2, b0, b1, b2, bo, el, e0, e1, e2, e3, e4, e5, e6, e7, e8, e9, hst⟩ := RdSts.get l hrd k hlt
      obtain ⟨rfl, rfl, ga, gb, g3, g4⟩ := hst.shape
      have GA := hid (ga.below hb)
      have GB := hid (gb.below hb)
      have G3 := hid (g3.below hb)
      have G4 := hid (g4.below hb)
      obtain ⟨pa, ca, rfl, rfl, rfl⟩ := ga.shape
      obtain ⟨pb, cb, rfl, rfl, rfl⟩ := gb.shape
      obtain ⟨pp, c1, rfl, -, -⟩ := g3
      obtain ⟨pq, c2, rfl, -, -⟩ := g4
      have HT := hid (flatT_take l k hlt)
      have HSI := hid (flatS_is (l[k]'hlt))
      have HTS : Hid (sizeT (l.take (k + 1)) = sizeT (l.take k) + sizeS (l[k]'hlt)) := hid (by rw [← flatT_len, ← flatT_len, ← flatS_len, flatT_take l k hlt, List.length_append])
      have HSS : Hid (sizeS (l[k]'hlt) = 1 + sizeT (l[k]'hlt).body + sizeT (l[k]'hlt).els) := hid (by rw [← flatS_len, flatS_is, List.length_cons, List.length_append, flatT_len, flatT_len]; omega)
      have hs1 := sizeS_body l[k]
      have hs2 := sizeS_els l[k]
      have hle := sizeT_get l k hlt
      have HB1 := hid (show sizeT l[k].body < s by have := HS.out; omega)
      have HB2 := hid (show sizeT l[k].els < s by have := HS.out; omega)
      have d0 := later hb e0
      have d1 := later hb e1
      have d2 := later hb e2
      have d3 := later hb e3
      have d4 := later hb e4
      have d5 := later hb e5
      have d6 := later hb e6
      have d7 := later hb e7
      have d8 := later hb e8
      have d9 := later hb e9
      have hbl := lt_of_cell d0
      have HLT := hid hlt
      have HB := hid hb
      have j1 : decide ((k : Int) < (l.length : Int)) = true := by rw [decide_eq_true_iff]; omega
      have j1n : decide (k < l.length) = true := decide_eq_true hlt
      have j2 : (0 : Int) ≤ (k : Int) := by omega
      have j3 : IntKind.i64.wrap ((k : Int) + 1) = (k : Int) + 1 := IntWalk.i64_in _ (by omega)
      clear e0 e1 e2 e3 e4 e5 e6 e7 e8 e9 hst ga gb hs1 hs2 hle hrd hb
      generalize l[k]'hlt = y at *
      go_wp2_with fail
      refine (sides_any (sizeE y.a) y.a _ _ _ _ 0 (Nat.le_refl _) GA.out (by omega)).mono ?_
      rintro e w1 ⟨n1, q1, rfl, h1, hb1⟩
      have H1 := hid h1
      have GB1 := hid (GB.out.below hb1)
      have G31 := hid (G3.out.below hb1)
      have G41 := hid (G4.out.below hb1)
      have HA1 := hid (ext_trans HB.out hb1)
      have d0 := later hb1 d0
      have d5 := later hb1 d5
      have d6 := later hb1 d6
      have d7 := later hb1 d7
      have d8 := later hb1 d8
      have d9 := later hb1 d9
      clear h1 hb1 d1 d2 d3 d4 GA GB G3 G4
      go_wp2_with fail
      refine (sides_any (sizeE y.b) y.b _ _ _ _ 0 (Nat.le_refl _) GB1.out (by omega)).mono ?_
      rintro e w2 ⟨n2, q2, rfl, h2, hb2⟩
      have H2 := hid h2
      have G32 := hid (G31.out.below hb2)
      have G42 := hid (G41.out.below hb2)
      have HA2 := hid (ext_trans HA1.out hb2)
      have d0 := later hb2 d0
      have d8 := later hb2 d8
      have d9 := later hb2 d9
      clear h2 hb2 d5 d6 d7 GB1 G31 G41 HA1
      go_wp2_with fail
      refine (IH.out y.body _ _ (d + 1) HB1.out G32.out HD1.out).mono ?_
      rintro e w3 ⟨n3, q3, rfl, h3, hb3⟩
      have H3 := hid h3
      have G43 := hid (G42.out.below hb3)
      have HA3 := hid (ext_trans HA2.out hb3)
      have d0 := later hb3 d0
      have d9 := later hb3 d9
      clear h3 hb3 d8 G32 G42 HA2
      go_wp2_with fail
      refine (IH.out y.els _ _ (d + 1) HB2.out G43.out HD1.out).mono ?_
      rintro e w4 ⟨n4, q4, rfl, h4, hb4⟩
      have H4 := hid h4
      have HA4 := hid (ext_trans HA3.out hb4)
      clear h4 hb4 d0 d9 G43 HA3
      have s1 : IntKind.i64.wrap ((m : Int) + 1) = (m : Int) + 1 := IntWalk.i64_in _ (by have := HM.out; omega)
      have s2 : IntKind.i64.wrap ((m : Int) + 1 + n1) = (m : Int) + 1 + n1 := IntWalk.i64_in _ (by have := HM.out.1; have := H1.out.1; have := H1.out.2.1; omega)
      have s3 : IntKind.i64.wrap ((m : Int) + 1 + n1 + n2) = (m : Int) + 1 + n1 + n2 := IntWalk.i64_in _ (by have := HM.out.1; have := H1.out.1; have := H1.out.2.1; have := H2.out.1; have := H2.out.2.1; omega)
      have s4 : IntKind.i64.wrap ((m : Int) + 1 + n1 + n2 + n3) = (m : Int) + 1 + n1 + n2 + n3 := IntWalk.i64_in _ (by have := HM.out.1; have := H1.out.1; have := H1.out.2.1; have := H2.out.1; have := H2.out.2.1; have := H3.out.1; have := H3.out.2.1; omega)
      have s5 : IntKind.i64.wrap ((m : Int) + 1 + n1 + n2 + n3 + n4) = (m : Int) + 1 + n1 + n2 + n3 + n4 := IntWalk.i64_in _ (by have := HM.out.1; have := H1.out.1; have := H1.out.2.1; have := H2.out.1; have := H2.out.2.1; have := H3.out.1; have := H3.out.2.1; have := H4.out.1; have := H4.out.2.1; omega)
      have hcase : (q1 = true ∨ (q1 = false ∧ q2 = true) ∨ (q1 = false ∧ q2 = false ∧ q3 = true) ∨ (q1 = false ∧ q2 = false ∧ q3 = false ∧ q4 = true) ∨ (q1 = false ∧ q2 = false ∧ q3 = false ∧ q4 = false ∧ 3000 < (m : Int) + 1 + n1 + n2 + n3 + n4)) ∨ (q1 = false ∧ q2 = false ∧ q3 = false ∧ q4 = false ∧ ¬ 3000 < (m : Int) + 1 + n1 + n2 + n3 + n4) := by
        cases q1 <;> cases q2 <;> cases q3 <;> cases q4 <;> simp <;> omega
      rcases hcase with (rfl | ⟨rfl, rfl⟩ | ⟨rfl, rfl, rfl⟩ | ⟨rfl, rfl, rfl, rfl⟩ | ⟨rfl, rfl, rfl, rfl, hg⟩) | ⟨rfl, rfl, rfl, rfl, hg⟩
      · go_wp2_with fail
        go_ret2
        exact ⟨0, true, rfl, ⟨by omega, by omega, fun h => by cases h⟩, HA4.out⟩
      · go_wp2_with fail
        go_ret2
        exact ⟨0, true, rfl, ⟨by omega, by omega, fun h => by cases h⟩, HA4.out⟩
      · go_wp2_with fail
        go_ret2
        exact ⟨0, true, rfl, ⟨by omega, by omega, fun h => by cases h⟩, HA4.out⟩
      · go_wp2_with fail
        go_ret2
        exact ⟨0, true, rfl, ⟨by omega, by omega, fun h => by cases h⟩, HA4.out⟩
      · have g1 : decide (3000 < (m : Int) + 1 + n1 + n2 + n3 + n4) = true := decide_eq_true hg
        clear hg
        go_wp2_with fail
        go_ret2
        exact ⟨0, true, rfl, ⟨by omega, by omega, fun h => by cases h⟩, HA4.out⟩
      · have g1 : decide (3000 < (m : Int) + 1 + n1 + n2 + n3 + n4) = false := decide_eq_false hg
        have HG := hid hg
        clear hg
        obtain ⟨m', hm'⟩ : ∃ m' : Nat, (m : Int) + 1 + n1 + n2 + n3 + n4 = (m' : Int) := ⟨((m : Int) + 1 + n1 + n2 + n3 + n4).toNat, by have := H1.out.1; have := H2.out.1; have := H3.out.1; have := H4.out.1; omega⟩
        have HFIN : Hid (m' ≤ 3000 ∧ sizeT (l.take (k + 1)) ≤ m' ∧ ∀ s ∈ flatT (l.take (k + 1)), okE s) := hid (by
          have i1 := H1.out.2.2 rfl
          have i2 := H2.out.2.2 rfl
          obtain ⟨i3, o3⟩ := H3.out.2.2 rfl
          obtain ⟨i4, o4⟩ := H4.out.2.2 rfl
          obtain ⟨f1, f2, f3⟩ := HM.out
          have f4 := HG.out
          have f5 := HTS.out
          have f6 := HSS.out
          have u1 := H1.out.2.1
          have u2 := H2.out.2.1
          have u3 := H1.out.1
          have u4 := H2.out.1
          refine ⟨by omega, by omega, fun s hs => ?_⟩
          rw [HT.out, HSI.out, List.mem_append, List.mem_cons, List.mem_append] at hs
          rcases hs with hs | rfl | hs | hs
          · exact f3 s hs
          · exact ⟨by omega, by omega⟩
          · exact o3 s hs
          · exact o4 s hs)
        have HMM := hid hm'
        clear hm'
        go_wp2_with fail
        go_roundw
        case rel => exact ⟨k + 1, m', HLT.out, by go_num, by rw [HMM.out], HFIN, HA4.out⟩
        case measure => have := HLT.out; simp [intOf]; omega
    · obtain rfl : k = l.length := by omega
      have j1 : decide ((l.length : Int) < (l.length : Int)) = false := by rw [decide_eq_false_iff_not]; omega
      go_wp2_with fail
      go_ret2
      obtain ⟨f1, f2, f3⟩ := HM.out
      rw [List.take_length] at f2 f3
      exact ⟨_, false, rfl, ⟨by omega, by omega, fun _ => ⟨by omega, f3⟩⟩, hb⟩
end Go.Proofs.Ytoeegiaajngpeaa
