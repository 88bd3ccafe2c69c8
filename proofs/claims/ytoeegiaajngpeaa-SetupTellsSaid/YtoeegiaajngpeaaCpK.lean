/-
  slices.Clone over rows of numbers, of transactions and of threads, walked (printed by tools/gen_cpk.py).
-/
import Derived.Test.YtoeegiaajngpeaaCpT3
import Derived.Test.YtoeegiaajngpeaaCpO
namespace Go.Proofs.Ytoeegiaajngpeaa
set_option linter.unusedVariables false
set_option linter.unusedSimpArgs false
set_option linter.unusedVariables false
open Go Go.RowKit
set_option maxRecDepth 100000 in
set_option maxHeartbeats 4000000 in
theorem clone_ints (w : World) (a : Option Addr) (n cap : Nat) (news : List Value) (hl : n ≤ 1000000) (hn : news.length = n) (ho : ∀ u ∈ news, u.oneCell' = true) (h0 : a = none → n = 0) (hc : ∀ ad, a = some ad → ∀ j u, news[j]? = some u → w.cell? (ad.add j) = some u) :
    Calls Try.prog 27 #[.slice a n cap] w fun e w' => ∃ v, e = .returned v ∧ w'.ownsRow w.heap.size 2 1 v n news ∧ Below w.heap.size w w' := by
  cases a with
  | none =>
    obtain rfl := h0 rfl
    obtain rfl : news = [] := List.eq_nil_of_length_eq_zero hn
    have hnil := fun w' => Lib.run_eql_slice_nil (P := Try.prog) w' 22 2 none 0 cap 0 0 Try.underlying22
    clear hc h0
    go_enter Try.func27, Try.ntmps27
    go_wp2_with fail
    go_ret
    exact ⟨_, rfl, World.ownsRow_nil _ _ _ _, ext_refl _⟩
  | some ad =>
    have HC := hid (fun j u hu => later_at (ext_alloc (ext_refl w) (.cells #[] 2)) (hc ad rfl j u hu))
    have HO := hid ho
    have HN : Hid (news.length = n * 1) := hid (by omega)
    clear hc ho hn h0
    obtain ⟨i0, hi0, hz0, hz1, hz2⟩ := info_parts infoI64
    have hA := ext_alloc (ext_refl w) (.cells #[] 2)
    have hnil := fun w' => Lib.run_eql_slice_nil (P := Try.prog) w' 22 2 (some ad) n cap 0 0 Try.underlying22
    have hm1 : 0 + n ≤ maxLen := by unfold maxLen; omega
    have hm2 : (0 + n) * 8 ≤ 140737488355328 := by omega
    go_enter Try.func27, Try.ntmps27
    go_wp2_with (at_builtin; go_must (refine wpList_append_own _ rfl (.tmp 5) (.tmp 6) 22 rfl w.heap.size 2 i0 _ 1 8 Try.underlying22 hi0 hz0 hz1 hz2 rfl (by decide) (.slice (some ⟨w.heap.size, 0, none⟩) 0 0) 0 [] rfl (World.ownsRow_lit w #[] 0 (Nat.le_refl _) (by decide) rfl) ad n cap news rfl HN.out HC.out HO.out hm1 hm2 hA.size ?_); intro v' w1 hown1 hgrow _h)
    go_ret
    simp only [Nat.zero_add, List.nil_append] at hown1
    exact ⟨_, rfl, hown1, hA.grown hgrow hA.size (by simp [Value.ownBlock])⟩
set_option maxRecDepth 100000 in
set_option maxHeartbeats 4000000 in
theorem clone_tx (w : World) (a : Option Addr) (n cap : Nat) (news : List Value) (hl : n ≤ 1000000) (hn : news.length = n) (ho : ∀ u ∈ news, u.oneCell' = true) (h0 : a = none → n = 0) (hc : ∀ ad, a = some ad → ∀ j u, news[j]? = some u → w.cell? (ad.add j) = some u) :
    Calls Try.prog 29 #[.slice a n cap] w fun e w' => ∃ v, e = .returned v ∧ w'.ownsRow w.heap.size 37 1 v n news ∧ Below w.heap.size w w' := by
  cases a with
  | none =>
    obtain rfl := h0 rfl
    obtain rfl : news = [] := List.eq_nil_of_length_eq_zero hn
    have hnil := fun w' => Lib.run_eql_slice_nil (P := Try.prog) w' 32 37 none 0 cap 0 0 Try.underlying32
    clear hc h0
    go_enter Try.func29, Try.ntmps29
    go_wp2_with fail
    go_ret
    exact ⟨_, rfl, World.ownsRow_nil _ _ _ _, ext_refl _⟩
  | some ad =>
    have HC := hid (fun j u hu => later_at (ext_alloc (ext_refl w) (.cells #[] 37)) (hc ad rfl j u hu))
    have HO := hid ho
    have HN : Hid (news.length = n * 1) := hid (by omega)
    clear hc ho hn h0
    obtain ⟨i0, hi0, hz0, hz1, hz2⟩ := info_parts infoStmts
    have hA := ext_alloc (ext_refl w) (.cells #[] 37)
    have hnil := fun w' => Lib.run_eql_slice_nil (P := Try.prog) w' 32 37 (some ad) n cap 0 0 Try.underlying32
    have hm1 : 0 + n ≤ maxLen := by unfold maxLen; omega
    have hm2 : (0 + n) * 24 ≤ 140737488355328 := by omega
    go_enter Try.func29, Try.ntmps29
    go_wp2_with (at_builtin; go_must (refine wpList_append_own _ rfl (.tmp 5) (.tmp 6) 32 rfl w.heap.size 37 i0 _ 1 24 Try.underlying32 hi0 hz0 hz1 hz2 rfl (by decide) (.slice (some ⟨w.heap.size, 0, none⟩) 0 0) 0 [] rfl (World.ownsRow_lit w #[] 0 (Nat.le_refl _) (by decide) rfl) ad n cap news rfl HN.out HC.out HO.out hm1 hm2 hA.size ?_); intro v' w1 hown1 hgrow _h)
    go_ret
    simp only [Nat.zero_add, List.nil_append] at hown1
    exact ⟨_, rfl, hown1, hA.grown hgrow hA.size (by simp [Value.ownBlock])⟩
set_option maxRecDepth 100000 in
set_option maxHeartbeats 4000000 in
theorem clone_ths (w : World) (a : Option Addr) (n cap : Nat) (news : List Value) (hl : n ≤ 1000000) (hn : news.length = n) (ho : ∀ u ∈ news, u.oneCell' = true) (h0 : a = none → n = 0) (hc : ∀ ad, a = some ad → ∀ j u, news[j]? = some u → w.cell? (ad.add j) = some u) :
    Calls Try.prog 28 #[.slice a n cap] w fun e w' => ∃ v, e = .returned v ∧ w'.ownsRow w.heap.size 32 1 v n news ∧ Below w.heap.size w w' := by
  cases a with
  | none =>
    obtain rfl := h0 rfl
    obtain rfl : news = [] := List.eq_nil_of_length_eq_zero hn
    have hnil := fun w' => Lib.run_eql_slice_nil (P := Try.prog) w' 23 32 none 0 cap 0 0 Try.underlying23
    clear hc h0
    go_enter Try.func28, Try.ntmps28
    go_wp2_with fail
    go_ret
    exact ⟨_, rfl, World.ownsRow_nil _ _ _ _, ext_refl _⟩
  | some ad =>
    have HC := hid (fun j u hu => later_at (ext_alloc (ext_refl w) (.cells #[] 32)) (hc ad rfl j u hu))
    have HO := hid ho
    have HN : Hid (news.length = n * 1) := hid (by omega)
    clear hc ho hn h0
    obtain ⟨i0, hi0, hz0, hz1, hz2⟩ := info_parts infoTh
    have hA := ext_alloc (ext_refl w) (.cells #[] 32)
    have hnil := fun w' => Lib.run_eql_slice_nil (P := Try.prog) w' 23 32 (some ad) n cap 0 0 Try.underlying23
    have hm1 : 0 + n ≤ maxLen := by unfold maxLen; omega
    have hm2 : (0 + n) * 24 ≤ 140737488355328 := by omega
    go_enter Try.func28, Try.ntmps28
    go_wp2_with (at_builtin; go_must (refine wpList_append_own _ rfl (.tmp 5) (.tmp 6) 23 rfl w.heap.size 32 i0 _ 1 24 Try.underlying23 hi0 hz0 hz1 hz2 rfl (by decide) (.slice (some ⟨w.heap.size, 0, none⟩) 0 0) 0 [] rfl (World.ownsRow_lit w #[] 0 (Nat.le_refl _) (by decide) rfl) ad n cap news rfl HN.out HC.out HO.out hm1 hm2 hA.size ?_); intro v' w1 hown1 hgrow _h)
    go_ret
    simp only [Nat.zero_add, List.nil_append] at hown1
    exact ⟨_, rfl, hown1, hA.grown hgrow hA.size (by simp [Value.ownBlock])⟩
end Go.Proofs.Ytoeegiaajngpeaa
