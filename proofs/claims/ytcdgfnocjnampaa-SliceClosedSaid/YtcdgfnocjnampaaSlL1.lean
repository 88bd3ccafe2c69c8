/-
  Walks: what the laws on slices share: whether attempts are many, whether a number is in a row, whether two rows are the same, and the examples.
-/
import Derived.Test.YtcdgfnocjnampaaSlKp
import Derived.Deep.DeepCutAuto
import Derived.Deep.CutBlock
import Derived.BigQuiet
namespace Go.Proofs.Ytcdgfnocjnampaa
set_option linter.unusedVariables false
set_option linter.unusedSimpArgs false
set_option linter.unusedVariables false
open Go Go.RowKit
def sumK (L : List Att) : Nat → Nat
  | 0 => 0
  | k + 1 => sumK L k + 1 + (L.getD k Att.zero).reads.length + (L.getD k Att.zero).writes.length
theorem sumK_ge (L : List Att) : ∀ k i, i < k → 1 + (L.getD i Att.zero).reads.length + (L.getD i Att.zero).writes.length ≤ sumK L k
  | 0, i, h => absurd h (Nat.not_lt_zero _)
  | k + 1, i, h => by
    unfold sumK
    by_cases he : i = k
    · subst he; omega
    · have := sumK_ge L k i (by omega); omega
theorem wrap64_in {x : Int} (h : -9223372036854775808 ≤ x ∧ x ≤ 9223372036854775807) : wrap64 x = x := by unfold wrap64; omega
theorem wrap_sum {s nr nu : Nat} (h1 : s < 1500) (h2 : nr ≤ 8796093022208) (h3 : nu ≤ 8796093022208) : wrap64 (wrap64 ((s : Int) + 1 + (nr : Int)) + (nu : Int)) = ((s + 1 + nr + nu : Nat) : Int) := by
  rw [wrap64_in (x := (s : Int) + 1 + (nr : Int)) (by omega), wrap64_in (by omega)]
  omega
set_option maxRecDepth 100000 in
set_option maxHeartbeats 4000000 in
theorem large_any (L : List Att) (w : World) (v : Value) (hr : RdAtts w L v) (hb : ∀ a ∈ L, a.reads.length ≤ 8796093022208 ∧ a.writes.length ≤ 8796093022208) :
    Calls Try.prog 6 #[v] w fun e' w' => ∃ q, e' = .returned (.bool q) ∧ (q = false → L.length ≤ 60 ∧ sumK L L.length < 1500) ∧ Below w.heap.size w w' := by
  obtain ⟨a, cap, rfl, hlen, hx⟩ := hr
  have HX := hid hx; clear hx
  have HB := hid hb; clear hb
  go_enter Try.func6, Try.ntmps6
  go_wp2_with fail
  go_loopw [3, 4] (fun n i wr => ∃ k : Nat, k ≤ L.length ∧ i = .int .i64 k ∧ n = .int .i64 (sumK L k : Nat) ∧ Hid (sumK L k ≤ 30000000000000) ∧ Hid (Below w.heap.size w wr)) (fun _ i _ => L.length - (intOf i).toNat)
  case atStart => exact ⟨0, Nat.zero_le _, rfl, rfl, hid (by unfold sumK; omega), hid (ext_refl _)⟩
  case round =>
    obtain ⟨k, hk, rfl, rfl, HS, HBW⟩ := hrel
    by_cases hlt : k < L.length
    · by_cases hn : sumK L k < 1500
      · obtain ⟨b, off, rfl, hrd⟩ := HX.out (by intro h; subst h; simp at hlt)
        obtain ⟨r, u, hc⟩ := hrd k hlt
        have hc := hc.below HBW.out
        have HT : Hid (sumK L (k + 1) = sumK L k + 1 + L[k].reads.length + L[k].writes.length) := hid (by
          show _ + _ + (L.getD k Att.zero).reads.length + (L.getD k Att.zero).writes.length = _
          rw [List.getD_eq_getElem?_getD, List.getElem?_eq_getElem hlt]; rfl)
        have hbb := HB.out _ (List.getElem_mem hlt)
        obtain ⟨ar, cr, hr⟩ := hc.reads.shape
        obtain ⟨au, cu, hu⟩ := hc.writes.shape
        subst hr hu
        have d7 := hc.c7
        have d8 := hc.c8
        have hbl := lt_of_cell d7
        have hlr := L[k].reads.length
        generalize L[k].reads.length = nr at *
        generalize L[k].writes.length = nu at *
        generalize sumK L k = s at *
        have HLT := hid hlt
        have HN := hid hn
        have HBB := hid hbb
        have j1 : decide ((k : Int) < (L.length : Int)) = true := by rw [decide_eq_true_iff]; omega
        have j2 : (0 : Int) ≤ (k : Int) := by omega
        have j4 : decide ((s : Int) < 1500) = true := by rw [decide_eq_true_iff]; omega
        have j5 : IntKind.i64.wrap ((s : Int) + 1) = ((s + 1 : Nat) : Int) := by rw [IntWalk.i64_in _ (by omega)]; omega
        have j6 : IntKind.i64.wrap (((s + 1 : Nat) : Int) + (nr : Int)) = ((s + 1 + nr : Nat) : Int) := by rw [IntWalk.i64_in _ (by omega)]; omega
        have j7 : IntKind.i64.wrap (((s + 1 + nr : Nat) : Int) + (nu : Int)) = ((s + 1 + nr + nu : Nat) : Int) := by rw [IntWalk.i64_in _ (by omega)]; omega
        clear hc hrd hbb hn
        go_wp2_with fail
        go_quiet (fail)
        go_wp2_with fail
        go_roundw
        case rel => exact ⟨k + 1, HLT.out, by go_num, (by rw [HT.out]; exact congrArg _ (wrap_sum HN.out HBB.out.1 HBB.out.2)), hid (by rw [HT.out]; have := HBB.out; have := HN.out; omega), hid (ext_drewN HBW.out _)⟩
        case measure => have := HLT.out; simp [intOf]; omega
      · generalize sumK L k = s at *
        have j1 : decide ((k : Int) < (L.length : Int)) = true := by rw [decide_eq_true_iff]; omega
        have j4 : decide ((s : Int) < 1500) = false := by rw [decide_eq_false_iff_not]; omega
        have j5 : (1500 : Int) ≤ (s : Int) := by omega
        have HN := hid hn
        clear hn
        go_wp2_with fail
        go_ret
        exact ⟨true, rfl, (fun h => by cases h), HBW.out⟩
    · obtain rfl : k = L.length := by omega
      have j1 : decide ((L.length : Int) < (L.length : Int)) = false := by rw [decide_eq_false_iff_not]; omega
      obtain ⟨s, hs⟩ : ∃ s, s = sumK L L.length := ⟨_, rfl⟩
      rw [← hs]
      have HSE := hid hs
      clear hs
      by_cases hn : s < 1500
      · have j5 : decide ((1500 : Int) ≤ (s : Int)) = false := by rw [decide_eq_false_iff_not]; omega
        have HN := hid hn
        by_cases hl : L.length ≤ 60
        · have j6 : decide ((60 : Int) < (L.length : Int)) = false := by rw [decide_eq_false_iff_not]; omega
          have HL := hid hl
          clear hn hl
          go_wp2_with fail
          go_ret
          exact ⟨false, rfl, fun _ => ⟨HL.out, by rw [← HSE.out]; exact HN.out⟩, HBW.out⟩
        · have j6 : (60 : Int) < (L.length : Int) := by omega
          clear hn hl
          go_wp2_with fail
          go_ret
          exact ⟨true, rfl, (fun h => by cases h), HBW.out⟩
      · have j5 : (1500 : Int) ≤ (s : Int) := by omega
        clear hn
        go_wp2_with fail
        go_ret
        exact ⟨true, rfl, (fun h => by cases h), HBW.out⟩
set_option maxRecDepth 100000 in
set_option maxHeartbeats 4000000 in
theorem in_any (l : List Nat) (n : Nat) (w : World) (v : Value) (hr : RdNats w l v) (hl : l.length ≤ 1000000000) :
    Calls Try.prog 9 #[v, .int .i64 (n : Int)] w fun e' w' => e' = .returned (.bool (decide (n ∈ l))) ∧ Below w.heap.size w w' := by
  obtain ⟨a, cap, rfl, hx⟩ := hr
  have HX := hid hx; clear hx
  have HL := hid hl; clear hl
  obtain ⟨d, hd⟩ : ∃ d, d = decide (n ∈ l) := ⟨_, rfl⟩
  rw [← hd]
  have HD := hid hd
  clear hd
  go_enter Try.func9, Try.ntmps9
  go_wp2_with fail
  go_loopw [5] (fun i wr => ∃ k : Nat, k ≤ l.length ∧ i = .int .i64 k ∧ Hid (n ∉ l.take k) ∧ Hid (Below w.heap.size w wr)) (fun i _ => l.length - (intOf i).toNat)
  case atStart => exact ⟨0, Nat.zero_le _, rfl, hid (by simp), hid (ext_refl _)⟩
  case round =>
    obtain ⟨k, hk, rfl, HI, HBW⟩ := hrel
    by_cases hlt : k < l.length
    · obtain ⟨b, off, rfl, hrd⟩ := HX.out (by intro h; subst h; simp at hlt)
      have c0 := later HBW.out (hrd k hlt)
      have hbl := lt_of_cell c0
      have j1 : decide ((k : Int) < (l.length : Int)) = true := by rw [decide_eq_true_iff]; omega
      have j2 : (0 : Int) ≤ (k : Int) := by omega
      have HT : Hid (l.take (k + 1) = l.take k ++ [l[k]]) := hid (List.take_succ_eq_append_getElem hlt)
      have HM : Hid (l[k] ∈ l) := hid (List.getElem_mem hlt)
      have HLT := hid hlt
      clear hrd
      generalize l[k] = x at *
      by_cases he : x = n
      · subst he
        have hdt : d = true := by rw [HD.out, decide_eq_true_iff]; exact HM.out
        subst hdt
        go_wp2_with fail
        go_ret
        exact ⟨rfl, HBW.out⟩
      · have e1 : ((x : Int) == (n : Int)) = false := by rw [beq_eq_false_iff_ne]; omega
        have HE := hid he
        have j3 : IntKind.i64.wrap ((k : Int) + 1) = ((k + 1 : Nat) : Int) := by have := HL.out; rw [IntWalk.i64_in _ (by omega)]; omega
        clear he
        go_wp2_with fail
        go_roundw
        case rel => exact ⟨k + 1, HLT.out, by simp, hid (by rw [HT.out]; intro h; rcases List.mem_append.1 h with h | h; exact HI.out h; exact HE.out (List.mem_singleton.1 h).symm), HBW⟩
        case measure => have := HLT.out; simp [intOf]; omega
    · obtain rfl : k = l.length := by omega
      have j1 : decide ((l.length : Int) < (l.length : Int)) = false := by rw [decide_eq_false_iff_not]; omega
      have hdt : d = false := by
        rw [HD.out, decide_eq_false_iff_not]
        have := HI.out
        rwa [List.take_length] at this
      subst hdt
      go_wp2_with fail
      go_ret
      exact ⟨rfl, HBW.out⟩
set_option maxRecDepth 100000 in
set_option maxHeartbeats 4000000 in
theorem numbers_any (l m : List Nat) (w : World) (v u : Value) (hr : RdNats w l v) (hu : RdNats w m u) (hl : l.length ≤ 1000000000) (hm : m.length ≤ 1000000000) :
    Calls Try.prog 10 #[v, u] w fun e' w' => e' = .returned (.bool (decide (l = m))) ∧ Below w.heap.size w w' := by
  obtain ⟨a, cap, rfl, hx⟩ := hr
  obtain ⟨a', cap', rfl, hy⟩ := hu
  have HX := hid hx; clear hx
  have HY := hid hy; clear hy
  have HL := hid hl; clear hl
  obtain ⟨d, hd⟩ : ∃ d, d = decide (l = m) := ⟨_, rfl⟩
  rw [← hd]
  have HD := hid hd
  clear hd
  by_cases hlen : l.length = m.length
  · have f1 : ((l.length : Int) != (m.length : Int)) = false := by simp [hlen]
    have f2 : ((l.length : Int) == (m.length : Int)) = true := by simp [hlen]
    rw [← hlen]
    have HLEN := hid hlen
    clear hlen hm f1 f2
    go_enter Try.func10, Try.ntmps10
    go_wp2_with fail
    go_loopw [5] (fun i wr => ∃ k : Nat, k ≤ l.length ∧ i = .int .i64 k ∧ Hid (l.take k = m.take k) ∧ Hid (Below w.heap.size w wr)) (fun i _ => l.length - (intOf i).toNat)
    case atStart => exact ⟨0, Nat.zero_le _, rfl, hid (by simp), hid (ext_refl _)⟩
    case round =>
      obtain ⟨k, hk, rfl, HI, HBW⟩ := hrel
      by_cases hlt : k < l.length
      · have hlt' : k < m.length := by have := HLEN.out; omega
        obtain ⟨b, off, rfl, hrd⟩ := HX.out (by intro h; subst h; simp at hlt)
        obtain ⟨b', off', rfl, hrd'⟩ := HY.out (by intro h; subst h; simp at hlt')
        have c0 := later HBW.out (hrd k hlt)
        have c1 := later HBW.out (hrd' k hlt')
        have hbl := lt_of_cell c0
        have hbl' := lt_of_cell c1
        have j1 : decide ((k : Int) < (l.length : Int)) = true := by rw [decide_eq_true_iff]; omega
        have j2 : (0 : Int) ≤ (k : Int) := by omega
        have j3 : IntKind.i64.wrap ((k : Int) + 1) = ((k + 1 : Nat) : Int) := by have := HL.out; rw [IntWalk.i64_in _ (by omega)]; omega
        have HT : Hid (l.take (k + 1) = l.take k ++ [l[k]]) := hid (List.take_succ_eq_append_getElem hlt)
        have HT' : Hid (m.take (k + 1) = m.take k ++ [m[k]]) := hid (List.take_succ_eq_append_getElem hlt')
        have HNE : Hid (l[k] ≠ m[k] → l ≠ m) := hid (fun h e => h (by subst e; rfl))
        have HLT := hid hlt
        have HHH : Hid True := hid trivial
        clear hrd hrd'
        generalize l[k] = x at *
        generalize m[k] = y at *
        by_cases he : x = y
        · subst he
          go_wp2_with fail
          go_quiet (fail)
          go_wp2_with fail
          go_roundw
          case rel => exact ⟨k + 1, HLT.out, by simp, hid (by rw [HT.out, HT'.out, HI.out]), hid (ext_drewN HBW.out _)⟩
          case measure => have := HLT.out; simp [intOf]; omega
        · have e1 : ((x : Int) != (y : Int)) = true := by rw [bne_iff_ne]; omega
          have e2 : ((x : Int) == (y : Int)) = false := by rw [beq_eq_false_iff_ne]; omega
          have hdt : d = false := by rw [HD.out, decide_eq_false_iff_not]; exact HNE.out he
          subst hdt
          clear he
          go_wp2_with fail
          go_quiet (fail)
          go_wp2_with fail
          go_ret
          exact ⟨rfl, ext_drewN HBW.out _⟩
      · obtain rfl : k = l.length := by omega
        have j1 : decide ((l.length : Int) < (l.length : Int)) = false := by rw [decide_eq_false_iff_not]; omega
        have hdt : d = true := by
          rw [HD.out, decide_eq_true_iff]
          have := HI.out
          rwa [List.take_length, HLEN.out, List.take_length] at this
        subst hdt
        go_wp2_with fail
        go_ret
        exact ⟨rfl, HBW.out⟩
  · have f1 : ((l.length : Int) != (m.length : Int)) = true := by rw [bne_iff_ne]; omega
    have f2 : ((l.length : Int) == (m.length : Int)) = false := by rw [beq_eq_false_iff_ne]; omega
    have hdt : d = false := by rw [HD.out, decide_eq_false_iff_not]; exact fun h => hlen (by rw [h])
    subst hdt
    go_enter Try.func10, Try.ntmps10
    go_wp2_with fail
    go_ret
    exact ⟨rfl, ext_refl _⟩
end Go.Proofs.Ytcdgfnocjnampaa
