/-
  slices.Clone over expressions, walked.
-/
import Derived.Test.YtonckpblbdopmaaDoorExOpen
import Derived.Test.YtonckpblbdopmaaDoorExL2
namespace Go.Proofs.YtonckpblbdopmaaDoor
set_option linter.unusedVariables false
open Go Go.RowKit

theorem infoExpr : (Tryd.prog.info? 29).map (fun i => (i.zero, i.size, i.bytes)) = some (some (.agg #[.int .u8 0, .int .i64 0, .slice none 0 0]), 3, 40) := by kernel_rfl

theorem later_at {w w' : World} {a : Addr} {v : Value} (hb : Below w.heap.size w w') (h : w.cell? a = some v) : w'.cell? a = some v := by
  rw [hb.cell (World.block_lt_of_cell? w _ h)]; exact h

/-- The cells of a list of expressions that lie in a row. -/
theorem RdExs.cells {w : World} : ∀ (l : List Ex) {b off : Nat}, RdExs w b off l → ∃ news : List Value, news.length = l.length * 3 ∧
    (∀ j u, news[j]? = some u → w.cell? ⟨b, off + j, none⟩ = some u) ∧ (∀ u ∈ news, u.oneCell' = true) ∧
    ∀ k (h : k < l.length), ∃ a cap, news[k * 3]? = some (.int .u8 l[k].op) ∧ news[k * 3 + 1]? = some (.int .i64 l[k].n) ∧ news[k * 3 + 2]? = some (.slice a l[k].args.length cap) ∧
      RdEx w l[k] (.int .u8 l[k].op) (.int .i64 l[k].n) (.slice a l[k].args.length cap)
  | [], _, _, _ => ⟨[], rfl, by simp, by simp, fun k h => by simp at h⟩
  | x :: xs, b, off, h => by
    unfold RdExs at h
    obtain ⟨⟨v0, v1, v2, h0, h1, h2, h3⟩, h4⟩ := h
    obtain ⟨a, cap, rfl, rfl, rfl⟩ := h3.shape
    obtain ⟨news, hn, hc, ho, hk⟩ := RdExs.cells xs h4
    refine ⟨.int .u8 x.op :: .int .i64 x.n :: .slice a x.args.length cap :: news, by simp [hn]; omega, ?_, ?_, ?_⟩
    · intro j u hu
      match j, hu with
      | 0, hu => simp at hu; subst hu; simpa using h0
      | 1, hu => simp at hu; subst hu; exact h1
      | 2, hu => simp at hu; subst hu; exact h2
      | j + 3, hu =>
        have := hc j u (by simpa using hu)
        rw [show off + (j + 3) = off + 3 + j by omega]; exact this
    · intro u hu
      simp only [List.mem_cons] at hu
      rcases hu with rfl | rfl | rfl | hu
      · rfl
      · rfl
      · rfl
      · exact ho u hu
    · intro k hlt
      match k, hlt with
      | 0, _ => exact ⟨a, cap, rfl, rfl, rfl, h3⟩
      | k + 1, hlt =>
        obtain ⟨a', cap', e0, e1, e2, e3⟩ := hk k (by simpa using hlt)
        refine ⟨a', cap', ?_, ?_, ?_, e3⟩
        · rw [show (k + 1) * 3 = k * 3 + 3 by omega]; simpa using e0
        · rw [show (k + 1) * 3 + 1 = k * 3 + 1 + 3 by omega]; simpa using e1
        · rw [show (k + 1) * 3 + 2 = k * 3 + 2 + 3 by omega]; simpa using e2

/-- What Clone hands back: a row of its own, cell by cell as the first one. -/
def CloneOf (wd w : World) (l : List Ex) (e : Ending) (w' : World) : Prop :=
  ∃ a' cap', e = .returned (.slice a' l.length cap') ∧ Below w.heap.size w w' ∧ (l ≠ [] → ∃ g cells, a' = some ⟨g, 0, none⟩ ∧ w.heap.size ≤ g ∧ Blk w' g cells 29 ∧ l.length * 3 ≤ cells.size ∧
    ∀ k (h : k < l.length), ∃ a cap, cells[k * 3]? = some (.int .u8 l[k].op) ∧ cells[k * 3 + 1]? = some (.int .i64 l[k].n) ∧ cells[k * 3 + 2]? = some (.slice a l[k].args.length cap) ∧
      RdEx wd l[k] (.int .u8 l[k].op) (.int .i64 l[k].n) (.slice a l[k].args.length cap))

theorem cloneOf_own {wd w w' : World} {l : List Ex} {v : Value} {news : List Value} (hown : w'.ownsRow w.heap.size 29 3 v l.length news) (hb : Below w.heap.size w w')
    (hk : ∀ k (h : k < l.length), ∃ a cap, news[k * 3]? = some (.int .u8 l[k].op) ∧ news[k * 3 + 1]? = some (.int .i64 l[k].n) ∧ news[k * 3 + 2]? = some (.slice a l[k].args.length cap) ∧
      RdEx wd l[k] (.int .u8 l[k].op) (.int .i64 l[k].n) (.slice a l[k].args.length cap)) : CloneOf wd w l (.returned v) w' := by
  obtain ⟨hlen, ⟨rfl, h0⟩ | ⟨g, cap, cur, rfl, hg, hh, hn, hm, hs, ht⟩⟩ := hown
  · refine ⟨none, 0, by rw [h0], hb, fun hne => ?_⟩
    exfalso; apply hne; exact List.eq_nil_of_length_eq_zero h0
  · refine ⟨_, cap, rfl, hb, fun _ => ⟨g, cur, rfl, hg, hh, by rw [hs]; exact Nat.mul_le_mul_right 3 hn, fun k h => ?_⟩⟩
    obtain ⟨a, c, e0, e1, e2, e3⟩ := hk k h
    have key : ∀ (j : Nat) (u : Value), news[j]? = some u → cur[j]? = some u := by
      intro j u hu
      rw [← ht, List.getElem?_take] at hu
      split at hu
      · simpa using hu
      · cases hu
    exact ⟨a, c, key _ _ e0, key _ _ e1, key _ _ e2, e3⟩

set_option maxRecDepth 100000 in
set_option maxHeartbeats 4000000 in
theorem clone_any (l : List Ex) (wd w : World) (hwd : Below wd.heap.size wd w) (a : Option Addr) (cap : Nat) (hl : l.length ≤ 1000000) (hx : l ≠ [] → ∃ b off, a = some ⟨b, off, none⟩ ∧ RdExs wd b off l) :
    Calls Tryd.prog 35 #[.slice a l.length cap] w (CloneOf wd w l) := by
  cases a with
  | none =>
    have h0 : l = [] := by
      by_cases h : l = []
      · exact h
      · obtain ⟨b, off, h1, -⟩ := hx h; cases h1
    subst h0
    have hnil := fun w' => Lib.run_eql_slice_nil (P := Tryd.prog) w' 27 29 none 0 cap 0 0 Tryd.underlying27
    clear hx
    go_enter Tryd.func35, Tryd.ntmps35
    go_wp2_with fail
    go_ret
    exact ⟨none, 0, rfl, ext_refl _, fun h => absurd rfl h⟩
  | some ad =>
    obtain ⟨news, hn, hc, ho, hk⟩ : ∃ news : List Value, news.length = l.length * 3 ∧ (∀ j u, news[j]? = some u → wd.cell? (ad.add j) = some u) ∧ (∀ u ∈ news, u.oneCell' = true) ∧
        ∀ k (h : k < l.length), ∃ a cap, news[k * 3]? = some (.int .u8 l[k].op) ∧ news[k * 3 + 1]? = some (.int .i64 l[k].n) ∧ news[k * 3 + 2]? = some (.slice a l[k].args.length cap) ∧
          RdEx wd l[k] (.int .u8 l[k].op) (.int .i64 l[k].n) (.slice a l[k].args.length cap) := by
      by_cases h : l = []
      · subst h; exact ⟨[], rfl, by simp, by simp, fun k h => by simp at h⟩
      · obtain ⟨b, off, h1, h2⟩ := hx h
        obtain rfl := Option.some.inj h1
        obtain ⟨news, g1, g2, g3, g4⟩ := RdExs.cells l h2
        refine ⟨news, g1, fun j u hu => ?_, g3, g4⟩
        have := g2 j u hu
        unfold Addr.add
        split
        · rename_i h; subst h; simpa using this
        · exact this
    have HC := hid (fun j u hu => later_at (ext_alloc (ext_refl w) (.cells #[] 29)) (later_at hwd (hc j u hu)))
    have HO := hid ho
    have HK := hid hk
    have HN := hid hn
    clear hx hc ho hk hn
    obtain ⟨i0, hi0, hz0, hz1, hz2⟩ := info_parts infoExpr
    have hA := ext_alloc (ext_refl w) (.cells #[] 29)
    have hnil := fun w' => Lib.run_eql_slice_nil (P := Tryd.prog) w' 27 29 (some ad) l.length cap 0 0 Tryd.underlying27
    have hm1 : 0 + l.length ≤ maxLen := by unfold maxLen; omega
    have hm2 : (0 + l.length) * 40 ≤ 140737488355328 := by omega
    go_enter Tryd.func35, Tryd.ntmps35
    go_wp2_with (at_builtin; go_must (refine wpList_append_own _ rfl (.tmp 5) (.tmp 6) 27 rfl w.heap.size 29 i0 _ 3 40 Tryd.underlying27 hi0 hz0 hz1 hz2 rfl (by decide) (.slice (some ⟨w.heap.size, 0, none⟩) 0 0) 0 [] rfl (World.ownsRow_lit w #[] 0 (Nat.le_refl _) (by decide) rfl) ad l.length cap news rfl HN.out HC.out HO.out hm1 hm2 hA.size ?_); intro v' w1 hown1 hgrow _h)
    go_ret
    simp only [Nat.zero_add, List.nil_append] at hown1
    exact cloneOf_own hown1 (hA.grown hgrow hA.size (by simp [Value.ownBlock])) HK.out
end Go.Proofs.YtonckpblbdopmaaDoor
