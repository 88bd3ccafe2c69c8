/-
  Walk: slices.BinarySearch over numbers that rise.
-/
import Derived.Test.YtcdgfnocjnampaaSlR
import Derived.Test.YtcdgfnocjnampaaProg
import Derived.WalkKit
namespace Go.Proofs.Ytcdgfnocjnampaa
set_option linter.unusedVariables false
set_option linter.unusedSimpArgs false
set_option linter.unusedVariables false
open Go Go.RowKit
/-- A row of numbers that are no less than 0, in memory. -/
def RdNats (w : World) (l : List Nat) (v : Value) : Prop := ∃ a cap, v = .slice a l.length cap ∧ (l ≠ [] → ∃ b o, a = some ⟨b, o, none⟩ ∧ ∀ k (h : k < l.length), w.cell? ⟨b, o + k, none⟩ = some (.int .i64 (l[k] : Int)))
theorem RdNats.below {w w' : World} (hb : Below w.heap.size w w') {l : List Nat} {v : Value} (h : RdNats w l v) : RdNats w' l v := by
  obtain ⟨a, cap, h1, h2⟩ := h
  refine ⟨a, cap, h1, fun hn => ?_⟩
  obtain ⟨b, o, h3, h4⟩ := h2 hn
  exact ⟨b, o, h3, fun k hk => later hb (h4 k hk)⟩
theorem place_mem {l : List Nat} {i : Nat} (h : SortedN l) : i ∈ l ↔ ∃ hp : placeN l i < l.length, l[placeN l i] = i := by
  obtain ⟨h1, h2⟩ := placeN_spec (i := i) h
  constructor
  · intro hm
    obtain ⟨k, hk, e⟩ := List.mem_iff_getElem.1 hm
    have hpk : placeN l i ≤ k := by
      rcases Nat.lt_or_ge k (placeN l i) with h' | h'
      · have := h1 k hk h'; omega
      · exact h'
    have hp : placeN l i < l.length := by omega
    refine ⟨hp, ?_⟩
    have hge := h2 _ hp (Nat.le_refl _)
    rcases Nat.lt_or_ge (placeN l i) k with h' | h'
    · have := List.pairwise_iff_getElem.1 h _ _ hp hk h'
      omega
    · have hpe : k = placeN l i := by omega
      subst hpe
      exact e
  · rintro ⟨hp, e⟩
    rw [← e]
    exact List.getElem_mem hp
set_option maxRecDepth 100000 in
set_option maxHeartbeats 4000000 in
theorem less_any (a b : Int) (w : World) : Calls Try.prog 20 #[.int .i64 a, .int .i64 b] w fun e w' => e = .returned (.bool (decide (a < b))) ∧ w' = w := by
  have HN : ∀ (x : Int) (w : World), Calls Try.prog 26 #[.int .i64 x] w fun e w' => e = .returned (.bool false) ∧ w' = w := by
    intro x w
    go_enter Try.func26, Try.ntmps26
    go_wp2_with fail
    go_ret
    exact ⟨by simp, rfl⟩
  have HN := hid HN
  go_enter Try.func20, Try.ntmps20
  go_wp2_with fail
  refine (HN.out a w).mono ?_
  rintro e' w1 ⟨rfl, rfl⟩
  go_wp2_with fail
  go_ret
  exact ⟨by simp, rfl⟩
set_option maxRecDepth 100000 in
set_option maxHeartbeats 4000000 in
theorem bsearch_any (l : List Nat) (hs : SortedN l) (i : Nat) (w : World) (v : Value) (hr : RdNats w l v) (hl : l.length ≤ 1000000000) :
    Calls Try.prog 14 #[v, .int .i64 (i : Int)] w fun e w' => e = .returned (.tuple #[.int .i64 (placeN l i : Int), .bool (decide (i ∈ l))]) ∧ w' = w := by
  obtain ⟨a, cap, rfl, hx⟩ := hr
  have HX := hid hx; clear hx
  have HN : ∀ (x : Int) (w : World), Calls Try.prog 21 #[.int .i64 x] w fun e w' => e = .returned (.bool false) ∧ w' = w := by
    intro x w
    go_enter Try.func21, Try.ntmps21
    go_wp2_with fail
    go_ret
    exact ⟨by simp, rfl⟩
  have HN' := hid HN
  clear HN
  have HN := HN'
  clear HN'
  have HL := hid hl; clear hl
  have HSP := hid (placeN_spec (i := i) hs)
  have HPM := hid (place_mem (i := i) hs)
  have HPL := hid (placeN_le l i)
  obtain ⟨d, hd⟩ : ∃ d, d = decide (i ∈ l) := ⟨_, rfl⟩
  rw [← hd]
  have HD := hid hd
  generalize placeN l i = P at HSP HPM HPL ⊢
  clear hd
  go_enter Try.func14, Try.ntmps14
  go_wp2_with fail
  go_loopw [7, 8] (fun p q wr => ∃ a b : Nat, p = .int .i64 (a : Int) ∧ q = .int .i64 (b : Int) ∧ Hid (a ≤ P ∧ P ≤ b ∧ b ≤ l.length) ∧ wr = w) (fun p q _ => (intOf q).toNat - (intOf p).toNat)
  case atStart => exact ⟨0, l.length, rfl, rfl, hid ⟨Nat.zero_le _, HPL.out, Nat.le_refl _⟩, rfl⟩
  case round =>
    obtain ⟨p, q, rfl, rfl, HI, rfl⟩ := hrel
    by_cases hlt : p < q
    · obtain ⟨m, hmE⟩ : ∃ m, m = (p + q) / 2 := ⟨_, rfl⟩
      have hm : m < l.length := by have := HI.out; omega
      obtain ⟨b, o, rfl, hc⟩ := HX.out (by intro h; subst h; simp at hm)
      have c0 := hc _ hm
      have j1 : decide ((p : Int) < (q : Int)) = true := by rw [decide_eq_true_iff]; omega
      have j2 : IntKind.i64.wrap ((p : Int) + (q : Int)) = ((p + q : Nat) : Int) := by have := HI.out; have := HL.out; rw [IntWalk.i64_in _ (by omega)]; omega
      have hbl := lt_of_cell c0
      have k1 : decide ((m : Int) < (l.length : Int)) = true := by rw [decide_eq_true_iff]; omega
      have k2 : (0 : Int) ≤ (m : Int) := by omega
      have k3 : IntKind.i64.wrap ((m : Int) + 1) = ((m + 1 : Nat) : Int) := by have := HL.out; rw [IntWalk.i64_in _ (by omega)]; omega
      have j5 : wrap64 (IntKind.u64.wrap ((p : Int) + (q : Int)) / 2) = (m : Int) := by
        have h1 := HI.out
        have h2 := HL.out
        have e1 : IntKind.u64.wrap ((p : Int) + (q : Int)) = (p : Int) + (q : Int) := by simp [IntKind.wrap, IntKind.signed, IntKind.bits]; omega
        rw [e1]
        have e2 : ((p : Int) + (q : Int)) / 2 = (m : Int) := by omega
        rw [e2]
        unfold wrap64
        omega
      have HM := hid hmE
      clear hc hmE
      go_wp2_with fail
      refine (less_any _ _ _).mono ?_
      rintro e' w1 ⟨rfl, rfl⟩
      by_cases hc : l[m] < i
      · have hc' : decide ((l[m] : Int) < (i : Int)) = true := by rw [decide_eq_true_iff]; omega
        have HC := hid hc
        rw [hc']
        clear hc hc'
        go_wp2_with fail
        go_roundw
        case rel =>
          refine ⟨m + 1, q, by simp, rfl, hid ⟨?_, HI.out.2.1, HI.out.2.2⟩, (by first | trivial | rfl)⟩
          rcases Nat.lt_or_ge m P with h | h
          · omega
          · have := HSP.out.2 m hm h; have := HC.out; omega
        case measure =>
          have := HM.out; simp [intOf]; omega
      · have hc' : decide ((l[m] : Int) < (i : Int)) = false := by rw [decide_eq_false_iff_not]; omega
        have HC := hid hc
        rw [hc']
        clear hc hc'
        go_wp2_with fail
        go_roundw
        case rel =>
          refine ⟨p, m, rfl, rfl, hid ⟨HI.out.1, ?_, by have := HI.out; omega⟩, (by first | trivial | rfl)⟩
          rcases Nat.lt_or_ge m P with h | h
          · have := HSP.out.1 m hm h; exact absurd this HC.out
          · exact h
        case measure =>
          have := HM.out
          simp [intOf]; omega
    · obtain rfl : p = P := by have := HI.out; omega
      have j1 : decide ((p : Int) < (q : Int)) = false := by rw [decide_eq_false_iff_not]; omega
      by_cases hpl : p < l.length
      · obtain ⟨b, o, rfl, hc⟩ := HX.out (by intro h; subst h; simp at hpl)
        have c0 := hc _ hpl
        have hbl := lt_of_cell c0
        have k1 : decide ((p : Int) < (l.length : Int)) = true := by rw [decide_eq_true_iff]; omega
        have k2 : (0 : Int) ≤ (p : Int) := by omega
        by_cases he : l[p] = i
        · have e1 : ((l[p] : Int) == (i : Int)) = true := by rw [beq_iff_eq]; omega
          have hdt : d = true := by rw [HD.out, decide_eq_true_iff]; exact HPM.out.2 ⟨hpl, he⟩
          subst hdt
          clear hc he
          go_wp2_with fail
          go_ret2
          exact ⟨rfl, rfl⟩
        · have e1 : ((l[p] : Int) == (i : Int)) = false := by rw [beq_eq_false_iff_ne]; omega
          have hdt : d = false := by rw [HD.out, decide_eq_false_iff_not]; exact fun h => he (HPM.out.1 h).2
          subst hdt
          clear hc he
          go_wp2_with fail
          refine (HN.out _ _).mono ?_
          rintro e' w1 ⟨rfl, rfl⟩
          go_wp2_with fail
          go_ret2
          exact ⟨rfl, rfl⟩
      · have k1 : decide ((p : Int) < (l.length : Int)) = false := by rw [decide_eq_false_iff_not]; omega
        have hdt : d = false := by rw [HD.out, decide_eq_false_iff_not]; exact fun h => hpl (HPM.out.1 h).1
        subst hdt
        go_wp2_with fail
        go_ret2
        exact ⟨rfl, rfl⟩
end Go.Proofs.Ytcdgfnocjnampaa
