/-
  Walks: the law's own last writer (SliceClosed), and whether a number is in a row: nothing is laid.
-/
import Derived.Test.YtcdgfnocjnampaaSlL3
namespace Go.Proofs.Ytcdgfnocjnampaa
set_option linter.unusedVariables false
set_option linter.unusedSimpArgs false
set_option linter.unusedVariables false
open Go Go.RowKit
set_option maxRecDepth 100000 in
set_option maxHeartbeats 4000000 in
theorem in_same (l : List Nat) (n : Nat) (w : World) (v : Value) (hr : RdNats w l v) (hl : l.length ≤ 1000000000) :
    Calls Try.prog 9 #[v, .int .i64 (n : Int)] w fun e' w' => e' = .returned (.bool (decide (n ∈ l))) ∧ w' = w := by
  obtain ⟨a, cap, rfl, hx⟩ := hr
  have HX := hid hx; clear hx
  have HL := hid hl; clear hl
  obtain ⟨d, hd⟩ : ∃ d, d = decide (n ∈ l) := ⟨_, rfl⟩
  rw [← hd]
  have HD := hid hd
  clear hd
  go_enter Try.func9, Try.ntmps9
  go_wp2_with fail
  go_loopw [5] (fun i wr => ∃ k : Nat, k ≤ l.length ∧ i = .int .i64 k ∧ Hid (n ∉ l.take k) ∧ w = wr) (fun i _ => l.length - (intOf i).toNat)
  case atStart => exact ⟨0, Nat.zero_le _, rfl, hid (by simp), rfl⟩
  case round =>
    obtain ⟨k, hk, rfl, HI, rfl⟩ := hrel
    by_cases hlt : k < l.length
    · obtain ⟨b, off, rfl, hrd⟩ := HX.out (by intro h; subst h; simp at hlt)
      have c0 := hrd k hlt
      have hbl := lt_of_cell c0
      have j1 : decide ((k : Int) < (l.length : Int)) = true := by rw [decide_eq_true_iff]; omega
      have j2 : (0 : Int) ≤ (k : Int) := by omega
      have HT : Hid (l.take (k + 1) = l.take k ++ [l[k]]) := hid (List.take_succ_eq_append_getElem hlt)
      have HM : Hid (l[k] ∈ l) := hid (List.getElem_mem hlt)
      have HLT := hid hlt
      clear hrd
      generalize l[k] = x at *
      by_cases he : x = n
      · subst he
        have hdt : d = true := by rw [HD.out, decide_eq_true_iff]; exact HM.out
        subst hdt
        go_wp2_with fail
        go_ret
        exact ⟨rfl, rfl⟩
      · have e1 : ((x : Int) == (n : Int)) = false := by rw [beq_eq_false_iff_ne]; omega
        have HE := hid he
        have j3 : IntKind.i64.wrap ((k : Int) + 1) = ((k + 1 : Nat) : Int) := by have := HL.out; rw [IntWalk.i64_in _ (by omega)]; omega
        clear he
        go_wp2_with fail
        go_roundw
        case rel => exact ⟨k + 1, HLT.out, by simp, hid (by rw [HT.out]; intro h; rcases List.mem_append.1 h with h | h; exact HI.out h; exact HE.out (List.mem_singleton.1 h).symm), (by first | trivial | rfl)⟩
        case measure => have := HLT.out; simp [intOf]; omega
    · obtain rfl : k = l.length := by omega
      have j1 : decide ((l.length : Int) < (l.length : Int)) = false := by rw [decide_eq_false_iff_not]; omega
      have hdt : d = false := by
        rw [HD.out, decide_eq_false_iff_not]
        have := HI.out
        rwa [List.take_length] at this
      subst hdt
      go_wp2_with fail
      go_ret
      exact ⟨rfl, rfl⟩
/-- Where the m-th write of the k-th one is gone over. -/
def preB (L : List Att) (most : Int) (k : Nat) (a : Att) (B : Int) : Bool := (decide (0 < a.wv) && decide (a.wv ≤ most)) && (decide (B < 0) || decide ((L.getD B.toNat Att.zero).wv < a.wv))
def innB (L : List Att) (v most : Int) (k m : Nat) (a : Att) (B : Int) : Int := if (preB L most k a B && (a.writes.take m).any fun p => p.1 == v) = true then (k : Int) else B
theorem innB_zero (L : List Att) (v most : Int) (k : Nat) (a : Att) (B : Int) : innB L v most k 0 a B = B := by unfold innB; simp
theorem innB_end (L : List Att) (v most : Int) (k : Nat) (h : k < L.length) : innB L v most k L[k].writes.length L[k] (writerK L v most k) = writerK L v most (k + 1) := by
  rw [writerK_step L v most k h]
  unfold innB preB
  rw [List.take_length]
  congr 1
  simp only [Bool.and_eq_true, eq_iff_iff]
  constructor
  · rintro ⟨⟨h1, h2⟩, h3⟩; exact ⟨⟨h1, h3⟩, h2⟩
  · rintro ⟨⟨h1, h3⟩, h2⟩; exact ⟨⟨h1, h2⟩, h3⟩
theorem innB_step (L : List Att) (v most : Int) (k m : Nat) (a : Att) (B : Int) (h : m < a.writes.length) :
    innB L v most k (m + 1) a B = if (preB L most k a B && ((a.writes.take m).any (fun p => p.1 == v) || (a.writes[m].1 == v))) = true then (k : Int) else B := by
  unfold innB
  rw [List.take_succ_eq_append_getElem h, List.any_append]
  simp only [List.any_cons, List.any_nil, Bool.or_false]
set_option maxRecDepth 100000 in
set_option maxHeartbeats 4000000 in
theorem last_any (L : List Att) (v most : Int) (w : World) (sv : Value) (b : Nat) (hr : RdAtts w L sv) (hb : w.cell? ⟨b, 0, none⟩ = some sv) (hw : ∀ a ∈ L, a.writes.length ≤ 1000000000) (hl : L.length ≤ 1000000000) :
    Calls Try.prog 8 #[.int .i64 v, .int .i64 most, .pointer (some ⟨b, 0, none⟩)] w fun e' w' => e' = .returned (.int .i64 (writerL L v most)) ∧ ∃ m, w' = w.drewN m := by
  obtain ⟨a, cap, rfl, hlen, hx⟩ := hr
  have HX := hid hx; clear hx
  have HW := hid hw; clear hw
  have hbl0 := lt_of_cell hb
  go_enter Try.func8, Try.ntmps8
  go_wp2_with fail
  go_loopw [6, 7] (fun n i wr => ∃ k : Nat, k ≤ L.length ∧ i = .int .i64 k ∧ n = .int .i64 (writerK L v most k) ∧ Hid (∃ m, wr = w.drewN m)) (fun _ i _ => L.length - (intOf i).toNat)
  case atStart => exact ⟨0, Nat.zero_le _, rfl, rfl, hid ⟨0, rfl⟩⟩
  case round =>
    obtain ⟨k, hk, rfl, rfl, HM⟩ := hrel
    obtain ⟨m0, rfl⟩ := HM.out
    have cb : (w.drewN m0).cell? ⟨b, 0, none⟩ = some (.slice a L.length cap) := hb
    by_cases hlt : k < L.length
    · obtain ⟨g, off, rfl, hrd⟩ := HX.out (by intro h; subst h; simp at hlt)
      obtain ⟨r, u, hc⟩ := hrd k hlt
      obtain ⟨au, cu, hu⟩ := hc.writes.shape
      subst hu
      have j1 : decide ((k : Int) < (L.length : Int)) = true := by rw [decide_eq_true_iff]; omega
      have j2 : (0 : Int) ≤ (k : Int) := by omega
      have j1n : decide (k < L.length) = true := decide_eq_true hlt
      have j3 : IntKind.i64.wrap ((k : Int) + 1) = ((k + 1 : Nat) : Int) := by rw [IntWalk.i64_in _ (by omega)]; omega
      have hge := writerK_ge L v most k
      have HEND := hid (innB_end L v most k hlt)
      have HST := hid (fun (m : Nat) (h : m < (L[k]'hlt).writes.length) => innB_step L v most k m (L[k]'hlt) (writerK L v most k) h)
      have HZ := hid (innB_zero L v most k L[k] (writerK L v most k))
      have HWL := hid (HW.out _ (List.getElem_mem hlt))
      have HC5 := hid hc.c5
      have HC8 := hid hc.c8
      have HWR := hid hc.writes
      have HBest : Hid (∀ j : Nat, j < L.length → w.cell? ⟨g, off + j * 9 + 5, none⟩ = some (.int .i64 (L.getD j Att.zero).wv)) := hid (fun j hj => by
        obtain ⟨r', u', hc'⟩ := hrd j hj
        rw [List.getD_eq_getElem?_getD, List.getElem?_eq_getElem hj]
        exact hc'.c5)
      have HLT := hid hlt
      have HLD : Hid (L.getD k Att.zero = L[k]) := hid (by rw [List.getD_eq_getElem?_getD, List.getElem?_eq_getElem hlt]; rfl)
      have hgl := lt_of_cell hc.c5
      clear hc hrd
      have hge0 := hge
      generalize hA : L[k]'hlt = A at HEND HST HZ HWL HC5 HC8 HWR HLD
      clear hA hlt
      generalize writerK L v most k = B at *
      go_wp2_with fail
      go_loopw [6, 8] (fun n i wr => ∃ m : Nat, m ≤ A.writes.length ∧ i = .int .i64 m ∧ n = .int .i64 (innB L v most k m A B) ∧ Hid (∃ q, wr = w.drewN q)) (fun _ i _ => A.writes.length - (intOf i).toNat)
      case atStart => exact ⟨0, Nat.zero_le _, rfl, congrArg (Value.int .i64) HZ.out.symm, HM⟩
      case round =>
        obtain ⟨m, hm, rfl, rfl, HQ⟩ := hrel
        obtain ⟨q0, rfl⟩ := HQ.out
        have cb' : (w.drewN q0).cell? ⟨b, 0, none⟩ = some (.slice (some ⟨g, off, none⟩) L.length cap) := hb
        have d5 : (w.drewN q0).cell? ⟨g, off + k * 9 + 5, none⟩ = some (.int .i64 A.wv) := HC5.out
        have d8 : (w.drewN q0).cell? ⟨g, off + k * 9 + 8, none⟩ = some (.slice au A.writes.length cu) := HC8.out
        by_cases hlm : m < A.writes.length
        · have HST' := hid (HST.out m hlm)
          obtain ⟨_, _, hsl, _, _, hwr⟩ := HWR.out
          cases hsl
          obtain ⟨gw, ow, rfl, hcell⟩ := hwr (by intro h; rw [h] at hlm; simp at hlm)
          obtain ⟨p0, -⟩ := hcell m hlm
          have e0 : (w.drewN q0).cell? ⟨gw, ow + m * 2, none⟩ = some (.int .i64 A.writes[m].1) := p0
          have e0w := p0
          have d5w := HC5.out
          have d8w := HC8.out
          have hgwl := lt_of_cell p0
          have i1 : decide ((m : Int) < (A.writes.length : Int)) = true := by rw [decide_eq_true_iff]; omega
          have i2 : (0 : Int) ≤ (m : Int) := by omega
          have i1n : decide (m < A.writes.length) = true := decide_eq_true hlm
          have i3 : IntKind.i64.wrap ((m : Int) + 1) = ((m + 1 : Nat) : Int) := by have := HWL.out; rw [IntWalk.i64_in _ (by omega)]; omega
          have HLM := hid hlm
          have HP : Hid (preB L most k A B = ((decide (0 < A.wv) && decide (A.wv ≤ most)) && (decide (B < 0) || decide ((L.getD B.toNat Att.zero).wv < A.wv)))) := hid rfl
          obtain ⟨cur, hcur⟩ : ∃ cur, cur = innB L v most k m A B := ⟨_, rfl⟩
          rw [← hcur]
          have HCUR : Hid (cur = if (preB L most k A B && (A.writes.take m).any fun p => p.1 == v) = true then (k : Int) else B) := hid hcur
          obtain ⟨e, he⟩ : ∃ e, e = (A.writes[m].1 == v) := ⟨_, rfl⟩
          have HST' : Hid (innB L v most k (m + 1) A B = if (preB L most k A B && ((A.writes.take m).any (fun p => p.1 == v) || e)) = true then (k : Int) else B) := hid (by rw [he]; exact HST'.out)
          have HEQ := hid he
          generalize preB L most k A B = pr at HP HCUR HST'
          generalize ((A.writes.take m).any fun p => p.1 == v) = am at HCUR HST'
          have f5 := HC5.out
          have HB' : Hid (∀ j : Nat, j < L.length → (w.drewN q0).cell? ⟨g, off + j * 9 + 5, none⟩ = some (.int .i64 (L.getD j Att.zero).wv)) := hid (fun j hj => HBest.out j hj)
          clear hcur he hcell f5 p0
          generalize hX : A.wv = X at *
          generalize hxx : A.writes[m].1 = x at *
          have HXX := hid hX
          clear hX hxx
          cases e
          · have e1 : (x == v) = false := HEQ.out.symm
            have HN : Hid (innB L v most k (m + 1) A B = cur) := hid (by rw [HST'.out, HCUR.out]; simp)
            go_wp2_with fail
            go_quiet (fail)
            go_wp2_with fail
            go_roundw
            case rel => exact ⟨m + 1, HLM.out, by simp, congrArg (Value.int .i64) HN.out.symm, hid ⟨_, rfl⟩⟩
            case measure => have := HLM.out; simp [intOf]; omega
          · have e1 : (x == v) = true := HEQ.out.symm
            have hxv : x = v := by simpa using e1
            subst hxv
            rcases Classical.em ((0 : Int) < X) with h1 | h1
            rotate_left
            · have h1' : decide ((0 : Int) < X) = false := decide_eq_false h1
              have HN : Hid (innB L x most k (m + 1) A B = cur) := hid (by rw [HST'.out, HCUR.out, HP.out]; simp [h1'])
              go_wp2_with fail
              go_quiet (fail)
              go_wp2_with fail
              go_roundw
              case rel => exact ⟨m + 1, HLM.out, by simp, congrArg (Value.int .i64) HN.out.symm, hid ⟨_, rfl⟩⟩
              case measure => have := HLM.out; simp [intOf]; omega
            rcases Classical.em (X ≤ most) with h2 | h2
            rotate_left
            · have h2' : decide (X ≤ most) = false := decide_eq_false h2
              have HN : Hid (innB L x most k (m + 1) A B = cur) := hid (by rw [HST'.out, HCUR.out, HP.out]; simp [h2'])
              go_wp2_with fail
              go_quiet (fail)
              go_wp2_with fail
              go_roundw
              case rel => exact ⟨m + 1, HLM.out, by simp, congrArg (Value.int .i64) HN.out.symm, hid ⟨_, rfl⟩⟩
              case measure => have := HLM.out; simp [intOf]; omega
            have HP2 : Hid (pr = (decide (B < 0) || decide ((L.getD B.toNat Att.zero).wv < X))) := hid (by rw [HP.out]; simp [h1, h2])
            by_cases hC : (pr && am) = true
            · have hpr : pr = true := by revert hC; cases pr <;> simp
              have hck : cur = (k : Int) := by rw [HCUR.out, if_pos hC]
              subst hck
              have hz : decide ((k : Int) < 0) = false := by rw [decide_eq_false_iff_not]; omega
              have HN : Hid (innB L x most k (m + 1) A B = (k : Int)) := hid (by rw [HST'.out, hpr]; simp)
              clear hC hpr
              go_wp2_with fail
              go_quiet (fail)
              go_wp2_with fail
              go_roundw
              case rel => exact ⟨m + 1, HLM.out, by simp, congrArg (Value.int .i64) HN.out.symm, hid ⟨_, rfl⟩⟩
              case measure => have := HLM.out; simp [intOf]; omega
            · have hcb : cur = B := by rw [HCUR.out, if_neg hC]
              subst hcb
              clear hC
              by_cases h3 : cur < 0
              · have hpr : pr = true := by rw [HP2.out]; simp [h3]
                have HN : Hid (innB L x most k (m + 1) A cur = (k : Int)) := hid (by rw [HST'.out, hpr]; simp)
                clear hpr
                go_wp2_with fail
                go_quiet (fail)
                go_wp2_with fail
                go_roundw
                case rel => exact ⟨m + 1, HLM.out, by simp, congrArg (Value.int .i64) HN.out.symm, hid ⟨_, rfl⟩⟩
                case measure => have := HLM.out; simp [intOf]; omega
              · obtain ⟨j, rfl⟩ : ∃ j : Nat, cur = (j : Int) := ⟨cur.toNat, by omega⟩
                have hj : j < L.length := by omega
                have g1 : decide ((j : Int) < (L.length : Int)) = true := by rw [decide_eq_true_iff]; omega
                have g2 : (0 : Int) ≤ (j : Int) := by omega
                have g5 := HB'.out j hj
                have g5w := HBest.out j hj
                have HP3 : Hid (pr = decide ((L.getD j Att.zero).wv < X)) := hid (by
                  have h0 : decide ((j : Int) < 0) = false := by rw [decide_eq_false_iff_not]; omega
                  rw [HP2.out, Int.toNat_natCast, h0, Bool.false_or])
                generalize (L.getD j Att.zero).wv = Y at *
                have h3' : decide ((j : Int) < 0) = false := by rw [decide_eq_false_iff_not]; omega
                clear h3 hge HBest HB' HP2 HP
                by_cases h4 : Y < X
                · have hpr : pr = true := by rw [HP3.out]; simp [h4]
                  have HN : Hid (innB L x most k (m + 1) A (j : Int) = (k : Int)) := hid (by rw [HST'.out, hpr]; simp)
                  clear hpr
                  go_wp2_with fail
                  go_quiet (fail)
                  go_wp2_with fail
                  go_roundw
                  case rel => exact ⟨m + 1, HLM.out, by simp, congrArg (Value.int .i64) HN.out.symm, hid ⟨_, rfl⟩⟩
                  case measure => have := HLM.out; simp [intOf]; omega
                · have h4' : decide (Y < X) = false := decide_eq_false h4
                  have hpr : pr = false := by rw [HP3.out]; simp [h4]
                  have HN : Hid (innB L x most k (m + 1) A (j : Int) = (j : Int)) := hid (by rw [HST'.out, hpr]; simp)
                  clear hpr
                  go_wp2_with fail
                  go_quiet (fail)
                  go_wp2_with fail
                  go_roundw
                  case rel => exact ⟨m + 1, HLM.out, by simp, congrArg (Value.int .i64) HN.out.symm, hid ⟨_, rfl⟩⟩
                  case measure => have := HLM.out; simp [intOf]; omega
        · obtain rfl : m = A.writes.length := by omega
          have i1 : decide ((A.writes.length : Int) < (A.writes.length : Int)) = false := by rw [decide_eq_false_iff_not]; omega
          rw [HEND.out]
          go_wp2_with fail
          go_roundw
          case rel => exact ⟨k + 1, HLT.out, by simp, rfl, HQ⟩
          case measure => have := HLT.out; simp [intOf]; omega
    · obtain rfl : k = L.length := by omega
      have j1 : decide ((L.length : Int) < (L.length : Int)) = false := by rw [decide_eq_false_iff_not]; omega
      go_wp2_with fail
      go_ret
      exact ⟨rfl, HM.out⟩
end Go.Proofs.Ytcdgfnocjnampaa
