/-
  Joined texts: App CpC1 CpC2 CpC3 CpC4.
-/
import Derived.Test.YtoeegiaajngpeaaBase
import Derived.Maps.AppendAt
import Derived.OwnWalk
import Derived.Test.YtoeegiaajngpeaaExOpP
import Derived.Test.YtoeegiaajngpeaaSuC
import Derived.Deep.RegionHeld3
import Derived.Deep.RegionLaw
/-
  append onto a slice of no capacity (append([]T{}, xs...)): what comes out lies in a new block, whatever the source. Of any program.
-/
namespace Go.Proofs.Ytoeegiaajngpeaa
set_option linter.unusedVariables false
open Go Go.RowKit
section
variable {P : Program} (w : World)

theorem run_append_cap0 (t ty e : TypeId) (i : TypeInfo) (size bytes : Nat) (ht : P.underlying t = some (.slice e)) (hi : P.info? e = some i) (hsize : i.size = size) (hby : i.bytes = bytes)
    (ad : Addr) (A : Option Addr) (m c : Nat) (hm : 0 < m) (hbytes : m * bytes ≤ 140737488355328) :
    (Builtin.append_ #[t, t] ty #[.slice (some ad) 0 0, .slice A m c]).run P w = (Builtin.append_ #[t, t] ty #[.slice none 0 0, .slice A m c]).run P w := by
  subst hsize; subst hby
  have h1 : ¬ m = 0 := by omega
  have h2 : ¬ (Builtin.nextslicecap m 0 * i.bytes > 281474976710656) := by
    have : Builtin.nextslicecap m 0 = m := by simp [Builtin.nextslicecap, hm]
    rw [this]; omega
  simp [Builtin.append_, run_underlying ht, sizeOf, typeInfo, hi, Builtin.lenOf, Builtin.firstCells, h1, h2, loadCells, loadCellsFrom]

theorem run_append_cap0_zero (t ty e : TypeId) (i : TypeInfo) (ht : P.underlying t = some (.slice e)) (hi : P.info? e = some i)
    (ad : Addr) (A : Option Addr) (c : Nat) : (Builtin.append_ #[t, t] ty #[.slice (some ad) 0 0, .slice A 0 c]).run P w = .ok (.slice (some ad) 0 0) w := by
  cases A <;> simp [Builtin.append_, run_underlying ht, sizeOf, typeInfo, hi, Builtin.lenOf, Builtin.firstCells, loadCells, loadCellsFrom, storeCells]

/-- What append onto an empty slice gives: new memory that holds what was appended. -/
theorem run_append_empty (t ty e : TypeId) (i : TypeInfo) (z : Value) (size bytes : Nat) (ht : P.underlying t = some (.slice e)) (hi : P.info? e = some i) (hz : i.zero = some z)
    (hsize : i.size = size) (hby : i.bytes = bytes) (hzs : z.cells.size = size) (hsz : 0 < size) (ad : Addr) (A : Option Addr) (m c : Nat) (news : List Value) (hl : news.length = m * size)
    (hnews : 0 < m → ∃ ad', A = some ad' ∧ ∀ j u, news[j]? = some u → w.cell? (ad'.add j) = some u) (h1 : ∀ u ∈ news, u.oneCell' = true) (h63 : m ≤ maxLen) (hbytes : m * bytes ≤ 140737488355328) :
    ∃ A' c' w', (Builtin.append_ #[t, t] ty #[.slice (some ad) 0 0, .slice A m c]).run P w = .ok (.slice (some A') m c') w' ∧ Below w.heap.size w w' ∧
      (0 < m → ∃ g cells, A' = ⟨g, 0, none⟩ ∧ w.heap.size ≤ g ∧ Blk w' g cells e ∧ m * size ≤ cells.size ∧ ∀ (j : Nat) (u : Value), news[j]? = some u → cells[j]? = some u) := by
  rcases Nat.eq_zero_or_pos m with hm | hm
  · subst hm
    exact ⟨ad, 0, w, run_append_cap0_zero w t ty e i ht hi ad A c, ext_refl _, fun h => absurd h (by omega)⟩
  · obtain ⟨ad', rfl, hc⟩ := hnews hm
    obtain ⟨v', w', hrun, hown, hg, hne, hlies⟩ := run_append_own_at (P := P) w w.heap.size t ty e i z size bytes ht hi hz hsize hby hzs hsz (.slice none 0 0) 0 [] (World.ownsRow_nil w _ _ _) ad' m c news hl hc h1 (by rw [Nat.zero_add]; exact h63) (by rw [Nat.zero_add]; exact hbytes) (Nat.le_refl _)
    rw [run_append_cap0 w t ty e i size bytes ht hi hsize hby ad (some ad') m c hm hbytes, hrun]
    obtain ⟨hlen, ⟨rfl, h0⟩ | ⟨g, cap, cur, rfl, hgb, hh, hn, hmx, hs, htk⟩⟩ := hown
    · omega
    · have hb : Below w.heap.size w w' := (Below.refl _ _).grown hg (Nat.le_refl _) (by simp [Value.ownBlock])
      rw [Nat.zero_add] at hn
      refine ⟨⟨g, 0, none⟩, cap, w', by rw [Nat.zero_add], hb, fun _ => ⟨g, cur, rfl, hgb, hh, by rw [hs]; exact Nat.mul_le_mul_right size hn, fun j u hu => ?_⟩⟩
      simp only [Nat.zero_add, List.nil_append] at htk
      rw [← htk, List.getElem?_take] at hu
      split at hu
      · simpa using hu
      · cases hu

theorem wp_append_empty {o : Oper} {a : Act} {K : Act → World → Prop} {Q : Exit → Act → World → Prop} (s x : Operand) (t : TypeId)
    (ho : o.op = .call { callee := .builtin .append, args := #[s, x], argTypes := #[t, t] })
    (e : TypeId) (i : TypeInfo) (z : Value) (size bytes : Nat) (ht : P.underlying t = some (.slice e)) (hi : P.info? e = some i) (hz : i.zero = some z)
    (hsize : i.size = size) (hby : i.bytes = bytes) (hzs : z.cells.size = size) (hsz : 0 < size)
    (ad : Addr) (hs : a.eval s = .slice (some ad) 0 0) (A : Option Addr) (m c : Nat) (news : List Value) (hx : a.eval x = .slice A m c) (hl : news.length = m * size)
    (hnews : 0 < m → ∃ ad', A = some ad' ∧ ∀ j u, news[j]? = some u → w.cell? (ad'.add j) = some u) (h1 : ∀ u ∈ news, u.oneCell' = true) (h63 : m ≤ maxLen) (hbytes : m * bytes ≤ 140737488355328)
    (h : ∀ A' c' w', Below w.heap.size w w' → (0 < m → ∃ g cells, A' = ⟨g, 0, none⟩ ∧ w.heap.size ≤ g ∧ Blk w' g cells e ∧ m * size ≤ cells.size ∧ ∀ (j : Nat) (u : Value), news[j]? = some u → cells[j]? = some u) →
      K (a.put o.dst (.slice (some A') m c')) w') : o.wp P a w K Q := by
  obtain ⟨A', c', w', hrun, h2, h3⟩ := run_append_empty (P := P) w t o.type e i z size bytes ht hi hz hsize hby hzs hsz ad A m c news hl hnews h1 h63 hbytes
  unfold Oper.wp execOp
  simp only [ho, resolve, invoke, builtin, Sem.run_bind, Sem.run_pure, Result.andThen_ok, List.map_toArray, List.map_cons, List.map_nil, hs, hx, hrun]
  exact h A' c' w' h2 h3

theorem wpList_append_empty {ops : Array Oper} {rest : List Oper} {o : Oper} {a : Act} {Q : Exit → Act → World → Prop} (hgd : o.guard = none) (s x : Operand) (t : TypeId)
    (ho : o.op = .call { callee := .builtin .append, args := #[s, x], argTypes := #[t, t] })
    (e : TypeId) (i : TypeInfo) (z : Value) (size bytes : Nat) (ht : P.underlying t = some (.slice e)) (hi : P.info? e = some i) (hz : i.zero = some z)
    (hsize : i.size = size) (hby : i.bytes = bytes) (hzs : z.cells.size = size) (hsz : 0 < size)
    (ad : Addr) (hs : a.eval s = .slice (some ad) 0 0) (A : Option Addr) (m c : Nat) (news : List Value) (hx : a.eval x = .slice A m c) (hl : news.length = m * size)
    (hnews : 0 < m → ∃ ad', A = some ad' ∧ ∀ j u, news[j]? = some u → w.cell? (ad'.add j) = some u) (h1 : ∀ u ∈ news, u.oneCell' = true) (h63 : m ≤ maxLen) (hbytes : m * bytes ≤ 140737488355328)
    (h : ∀ A' c' w', Below w.heap.size w w' → (0 < m → ∃ g cells, A' = ⟨g, 0, none⟩ ∧ w.heap.size ≤ g ∧ Blk w' g cells e ∧ m * size ≤ cells.size ∧ ∀ (j : Nat) (u : Value), news[j]? = some u → cells[j]? = some u) →
      wpList P ops Q rest (a.put o.dst (.slice (some A') m c')) w') : wpList P ops Q (o :: rest) a w :=
  wpList_plain hgd fun _ hK => wp_append_empty w s x t ho e i z size bytes ht hi hz hsize hby hzs hsz ad hs A m c news hx hl hnews h1 h63 hbytes fun A' c' w' h2 h3 => hK _ _ (h A' c' w' h2 h3)

theorem step_append_empty {ops : Array Oper} {o : Oper} {a : Act} {K : Act → World → Prop} {Q : Exit → Act → World → Prop} {E : Prop} (hgd : o.guard = none) (s x : Operand) (t : TypeId)
    (ho : o.op = .call { callee := .builtin .append, args := #[s, x], argTypes := #[t, t] })
    (e : TypeId) (i : TypeInfo) (z : Value) (size bytes : Nat) (ht : P.underlying t = some (.slice e)) (hi : P.info? e = some i) (hz : i.zero = some z)
    (hsize : i.size = size) (hby : i.bytes = bytes) (hzs : z.cells.size = size) (hsz : 0 < size)
    (ad : Addr) (hs : a.eval s = .slice (some ad) 0 0) (A : Option Addr) (m c : Nat) (news : List Value) (hx : a.eval x = .slice A m c) (hl : news.length = m * size)
    (hnews : 0 < m → ∃ ad', A = some ad' ∧ ∀ j u, news[j]? = some u → w.cell? (ad'.add j) = some u) (h1 : ∀ u ∈ news, u.oneCell' = true) (h63 : m ≤ maxLen) (hbytes : m * bytes ≤ 140737488355328)
    (h : ∀ A' c' w', Below w.heap.size w w' → (0 < m → ∃ g cells, A' = ⟨g, 0, none⟩ ∧ w.heap.size ≤ g ∧ Blk w' g cells e ∧ m * size ≤ cells.size ∧ ∀ (j : Nat) (u : Value), news[j]? = some u → cells[j]? = some u) →
      K (a.put o.dst (.slice (some A') m c')) w') :
    if Region.wanted o (yielded ops a.tmps) = true then Oper.wp P o a w K Q else E := by
  have hw : Region.wanted o (yielded ops a.tmps) = true := by simp [Region.wanted, hgd]
  rw [if_pos hw]
  exact wp_append_empty w s x t ho e i z size bytes ht hi hz hsize hby hzs hsz ad hs A m c news hx hl hnews h1 h63 hbytes h
end
end Go.Proofs.Ytoeegiaajngpeaa
/-
  slices.Clone over expressions, walked.
-/
namespace Go.Proofs.Ytoeegiaajngpeaa
set_option linter.unusedVariables false
open Go Go.RowKit

theorem infoExpr : (Try.prog.info? 40).map (fun i => (i.zero, i.size, i.bytes)) = some (some (.agg #[.int .u8 0, .int .i64 0, .slice none 0 0]), 3, 40) := by kernel_rfl

theorem later_at {w w' : World} {a : Addr} {v : Value} (hb : Below w.heap.size w w') (h : w.cell? a = some v) : w'.cell? a = some v := by
  rw [hb.cell (World.block_lt_of_cell? w _ h)]; exact h

/-- The cells of a list of expressions that lie in a row. -/
theorem RdExs.cells {w : World} : ∀ (l : List Ex) {b off : Nat}, RdExs w b off l → ∃ news : List Value, news.length = l.length * 3 ∧
    (∀ j u, news[j]? = some u → w.cell? ⟨b, off + j, none⟩ = some u) ∧ (∀ u ∈ news, u.oneCell' = true) ∧
    ∀ k (h : k < l.length), ∃ a cap, news[k * 3]? = some (.int .u8 l[k].op) ∧ news[k * 3 + 1]? = some (.int .i64 l[k].n) ∧ news[k * 3 + 2]? = some (.slice a l[k].args.length cap) ∧
      RdEx w l[k] (.int .u8 l[k].op) (.int .i64 l[k].n) (.slice a l[k].args.length cap)
  | [], _, _, _ => ⟨[], rfl, by simp, by simp, fun k h => by simp at h⟩
  | x :: xs, b, off, h => by
    unfold RdExs at h
    obtain ⟨⟨v0, v1, v2, h0, h1, h2, h3⟩, h4⟩ := h
    obtain ⟨a, cap, rfl, rfl, rfl⟩ := h3.shape
    obtain ⟨news, hn, hc, ho, hk⟩ := RdExs.cells xs h4
    refine ⟨.int .u8 x.op :: .int .i64 x.n :: .slice a x.args.length cap :: news, by simp [hn]; omega, ?_, ?_, ?_⟩
    · intro j u hu
      match j, hu with
      | 0, hu => simp at hu; subst hu; simpa using h0
      | 1, hu => simp at hu; subst hu; exact h1
      | 2, hu => simp at hu; subst hu; exact h2
      | j + 3, hu =>
        have := hc j u (by simpa using hu)
        rw [show off + (j + 3) = off + 3 + j by omega]; exact this
    · intro u hu
      simp only [List.mem_cons] at hu
      rcases hu with rfl | rfl | rfl | hu
      · rfl
      · rfl
      · rfl
      · exact ho u hu
    · intro k hlt
      match k, hlt with
      | 0, _ => exact ⟨a, cap, rfl, rfl, rfl, h3⟩
      | k + 1, hlt =>
        obtain ⟨a', cap', e0, e1, e2, e3⟩ := hk k (by simpa using hlt)
        refine ⟨a', cap', ?_, ?_, ?_, e3⟩
        · rw [show (k + 1) * 3 = k * 3 + 3 by omega]; simpa using e0
        · rw [show (k + 1) * 3 + 1 = k * 3 + 1 + 3 by omega]; simpa using e1
        · rw [show (k + 1) * 3 + 2 = k * 3 + 2 + 3 by omega]; simpa using e2

/-- What Clone hands back: a row of its own, cell by cell as the first one. -/
def CloneOf (wd w : World) (l : List Ex) (e : Ending) (w' : World) : Prop :=
  ∃ a' cap', e = .returned (.slice a' l.length cap') ∧ Below w.heap.size w w' ∧ (l ≠ [] → ∃ g cells, a' = some ⟨g, 0, none⟩ ∧ w.heap.size ≤ g ∧ Blk w' g cells 40 ∧ l.length * 3 ≤ cells.size ∧
    ∀ k (h : k < l.length), ∃ a cap, cells[k * 3]? = some (.int .u8 l[k].op) ∧ cells[k * 3 + 1]? = some (.int .i64 l[k].n) ∧ cells[k * 3 + 2]? = some (.slice a l[k].args.length cap) ∧
      RdEx wd l[k] (.int .u8 l[k].op) (.int .i64 l[k].n) (.slice a l[k].args.length cap))

theorem cloneOf_own {wd w w' : World} {l : List Ex} {v : Value} {news : List Value} (hown : w'.ownsRow w.heap.size 40 3 v l.length news) (hb : Below w.heap.size w w')
    (hk : ∀ k (h : k < l.length), ∃ a cap, news[k * 3]? = some (.int .u8 l[k].op) ∧ news[k * 3 + 1]? = some (.int .i64 l[k].n) ∧ news[k * 3 + 2]? = some (.slice a l[k].args.length cap) ∧
      RdEx wd l[k] (.int .u8 l[k].op) (.int .i64 l[k].n) (.slice a l[k].args.length cap)) : CloneOf wd w l (.returned v) w' := by
  obtain ⟨hlen, ⟨rfl, h0⟩ | ⟨g, cap, cur, rfl, hg, hh, hn, hm, hs, ht⟩⟩ := hown
  · refine ⟨none, 0, by rw [h0], hb, fun hne => ?_⟩
    exfalso; apply hne; exact List.eq_nil_of_length_eq_zero h0
  · refine ⟨_, cap, rfl, hb, fun _ => ⟨g, cur, rfl, hg, hh, by rw [hs]; exact Nat.mul_le_mul_right 3 hn, fun k h => ?_⟩⟩
    obtain ⟨a, c, e0, e1, e2, e3⟩ := hk k h
    have key : ∀ (j : Nat) (u : Value), news[j]? = some u → cur[j]? = some u := by
      intro j u hu
      rw [← ht, List.getElem?_take] at hu
      split at hu
      · simpa using hu
      · cases hu
    exact ⟨a, c, key _ _ e0, key _ _ e1, key _ _ e2, e3⟩

set_option maxRecDepth 100000 in
set_option maxHeartbeats 4000000 in
theorem clone_any (l : List Ex) (wd w : World) (hwd : Below wd.heap.size wd w) (a : Option Addr) (cap : Nat) (hl : l.length ≤ 1000000) (hx : l ≠ [] → ∃ b off, a = some ⟨b, off, none⟩ ∧ RdExs wd b off l) :
    Calls Try.prog 60 #[.slice a l.length cap] w (CloneOf wd w l) := by
  cases a with
  | none =>
    have h0 : l = [] := by
      by_cases h : l = []
      · exact h
      · obtain ⟨b, off, h1, -⟩ := hx h; cases h1
    subst h0
    have hnil := fun w' => Lib.run_eql_slice_nil (P := Try.prog) w' 38 40 none 0 cap 0 0 Try.underlying38
    clear hx
    go_enter Try.func60, Try.ntmps60
    go_wp2_with fail
    go_ret
    exact ⟨none, 0, rfl, ext_refl _, fun h => absurd rfl h⟩
  | some ad =>
    obtain ⟨news, hn, hc, ho, hk⟩ : ∃ news : List Value, news.length = l.length * 3 ∧ (∀ j u, news[j]? = some u → wd.cell? (ad.add j) = some u) ∧ (∀ u ∈ news, u.oneCell' = true) ∧
        ∀ k (h : k < l.length), ∃ a cap, news[k * 3]? = some (.int .u8 l[k].op) ∧ news[k * 3 + 1]? = some (.int .i64 l[k].n) ∧ news[k * 3 + 2]? = some (.slice a l[k].args.length cap) ∧
          RdEx wd l[k] (.int .u8 l[k].op) (.int .i64 l[k].n) (.slice a l[k].args.length cap) := by
      by_cases h : l = []
      · subst h; exact ⟨[], rfl, by simp, by simp, fun k h => by simp at h⟩
      · obtain ⟨b, off, h1, h2⟩ := hx h
        obtain rfl := Option.some.inj h1
        obtain ⟨news, g1, g2, g3, g4⟩ := RdExs.cells l h2
        refine ⟨news, g1, fun j u hu => ?_, g3, g4⟩
        have := g2 j u hu
        unfold Addr.add
        split
        · rename_i h; subst h; simpa using this
        · exact this
    have HC := hid (fun j u hu => later_at (ext_alloc (ext_refl w) (.cells #[] 40)) (later_at hwd (hc j u hu)))
    have HO := hid ho
    have HK := hid hk
    have HN := hid hn
    clear hx hc ho hk hn
    obtain ⟨i0, hi0, hz0, hz1, hz2⟩ := info_parts infoExpr
    have hA := ext_alloc (ext_refl w) (.cells #[] 40)
    have hnil := fun w' => Lib.run_eql_slice_nil (P := Try.prog) w' 38 40 (some ad) l.length cap 0 0 Try.underlying38
    have hm1 : 0 + l.length ≤ maxLen := by unfold maxLen; omega
    have hm2 : (0 + l.length) * 40 ≤ 140737488355328 := by omega
    go_enter Try.func60, Try.ntmps60
    go_wp2_with (at_builtin; go_must (refine wpList_append_own _ rfl (.tmp 5) (.tmp 6) 38 rfl w.heap.size 40 i0 _ 3 40 Try.underlying38 hi0 hz0 hz1 hz2 rfl (by decide) (.slice (some ⟨w.heap.size, 0, none⟩) 0 0) 0 [] rfl (World.ownsRow_lit w #[] 0 (Nat.le_refl _) (by decide) rfl) ad l.length cap news rfl HN.out HC.out HO.out hm1 hm2 hA.size ?_); intro v' w1 hown1 hgrow _h)
    go_ret
    simp only [Nat.zero_add, List.nil_append] at hown1
    exact cloneOf_own hown1 (hA.grown hgrow hA.size (by simp [Value.ownBlock])) HK.out
end Go.Proofs.Ytoeegiaajngpeaa
/-
  Copy of expressions, walked: the same expression in new memory.
-/
namespace Go.Proofs.Ytoeegiaajngpeaa
set_option linter.unusedVariables false
open Go Go.RowKit

/-- From block lo on, below block hi, both worlds hold the same. -/
def Agree (lo hi : Nat) (w w' : World) : Prop := ∀ b, lo ≤ b → b < hi → w'.heap[b]? = w.heap[b]?
theorem Agree.sub {lo hi lo' hi' : Nat} {w w' : World} (h : Agree lo hi w w') (h1 : lo ≤ lo') (h2 : hi' ≤ hi) : Agree lo' hi' w w' := fun b hb hc => h b (by omega) (by omega)
theorem Agree.trans {lo hi : Nat} {a b c : World} (h : Agree lo hi a b) (k : Agree lo hi b c) : Agree lo hi a c := fun x h1 h2 => (k x h1 h2).trans (h x h1 h2)
theorem Agree.of_below {lo : Nat} {w w' : World} (h : Below w.heap.size w w') : Agree lo w.heap.size w w' := fun b _ hb => h.block b hb
theorem Agree.set {lo hi : Nat} {w : World} (p : Addr) (v : Value) (h : p.block < lo) : Agree lo hi w (w.setCell p v) := fun b hb _ => Below.heap_setCell w p v b (by omega)
theorem Agree.refl (lo hi : Nat) (w : World) : Agree lo hi w w := fun _ _ _ => rfl
theorem Blk.agree {lo hi : Nat} {w w' : World} {b : Nat} {cs : Array Value} {t : TypeId} (h : Blk w b cs t) (ha : Agree lo hi w w') (h1 : lo ≤ b) (h2 : b < hi) : Blk w' b cs t := (ha b h1 h2).trans h

theorem sizeL_length (l : List Ex) : l.length ≤ sizeL l := by
  induction l with
  | nil => simp [sizeL]
  | cons x xs ih => have := sizeE_pos x; simp [sizeL]; omega

/-- What Copy hands back: the same expression, all of it in blocks of its own. -/
def CopyOf (w : World) (e : Ex) (en : Ending) (w' : World) : Prop :=
  ∃ a cap, en = .returned (.agg #[.int .u8 e.op, .int .i64 e.n, .slice a e.args.length cap]) ∧ Below w.heap.size w w' ∧
    (∀ w'', Agree w.heap.size w'.heap.size w' w'' → RdEx w'' e (.int .u8 e.op) (.int .i64 e.n) (.slice a e.args.length cap)) ∧
    (e.args ≠ [] → ∃ g cells, a = some ⟨g, 0, none⟩ ∧ w.heap.size ≤ g ∧ Blk w' g cells 40 ∧ e.args.length * 3 ≤ cells.size)

/-- A row half copied: from place k on the old parts, ahead of it the copies. -/
def Half (w : World) (args : List Ex) (g : Nat) (cells : Array Value) (k : Nat) (wr : World) : Prop :=
  (∀ j (h : j < args.length), k ≤ j → ∃ a cap, cells[j * 3]? = some (.int .u8 args[j].op) ∧ cells[j * 3 + 1]? = some (.int .i64 args[j].n) ∧ cells[j * 3 + 2]? = some (.slice a args[j].args.length cap) ∧
      RdEx w args[j] (.int .u8 args[j].op) (.int .i64 args[j].n) (.slice a args[j].args.length cap)) ∧
  (∀ j (h : j < args.length), j < k → ∃ a cap, cells[j * 3]? = some (.int .u8 args[j].op) ∧ cells[j * 3 + 1]? = some (.int .i64 args[j].n) ∧ cells[j * 3 + 2]? = some (.slice a args[j].args.length cap) ∧
      ∀ w'', Agree (g + 1) wr.heap.size wr w'' → RdEx w'' args[j] (.int .u8 args[j].op) (.int .i64 args[j].n) (.slice a args[j].args.length cap))

def CopyRel (w : World) (args : List Ex) (op n : Int) (a' : Option Addr) (cap' : Nat) (k : Nat) (wr : World) : Prop :=
  Blk wr w.heap.size #[.int .u8 op, .int .i64 n, .slice a' args.length cap'] 40 ∧ Blk wr (w.heap.size + 1) #[.int .u8 0, .int .i64 0, .slice none 0 0] 40 ∧ Below w.heap.size w wr ∧
  (args ≠ [] → ∃ g cells, a' = some ⟨g, 0, none⟩ ∧ w.heap.size + 2 ≤ g ∧ Blk wr g cells 40 ∧ args.length * 3 ≤ cells.size ∧ Half w args g cells k wr)


theorem Agree.size {lo hi : Nat} {w w' : World} (h : Agree lo hi w w') (h2 : hi ≤ w.heap.size) (h1 : lo < hi) : hi ≤ w'.heap.size := by
  have := h (hi - 1) (by omega) (by omega)
  rcases Nat.lt_or_ge (hi - 1) w'.heap.size with h' | h'
  · omega
  · rw [Array.getElem?_eq_none h', Array.getElem?_eq_getElem (by omega)] at this; cases this
theorem size_setCell (w : World) (p : Addr) (v : Value) : (w.setCell p v).heap.size = w.heap.size := by simp [World.setCell]

theorem copyRel_step {w wr w2 X : World} {args : List Ex} {op n : Int} {g cap' k : Nat} {cells : Array Value} {a3 : Option Addr} {c3 : Nat} (hlt : k < args.length) (hE2 : Below wr.heap.size wr w2)
    (hB0 : Blk wr w.heap.size #[.int .u8 op, .int .i64 n, .slice (some ⟨g, 0, none⟩) args.length cap'] 40) (hB1 : Blk wr (w.heap.size + 1) #[.int .u8 0, .int .i64 0, .slice none 0 0] 40)
    (hbw : Below w.heap.size w wr) (hg : w.heap.size + 2 ≤ g) (hgb : Blk wr g cells 40) (hsz : args.length * 3 ≤ cells.size) (hhalf : Half w args g cells k wr) (hX : wr.heap.size ≤ X.heap.size)
    (hcp : ∀ w'', Agree X.heap.size w2.heap.size w2 w'' → RdEx w'' args[k] (.int .u8 args[k].op) (.int .i64 args[k].n) (.slice a3 args[k].args.length c3)) :
    CopyRel w args op n (some ⟨g, 0, none⟩) cap' (k + 1) (((w2.setCell ⟨g, k * 3, none⟩ (.int .u8 args[k].op)).setCell ⟨g, k * 3 + 1, none⟩ (.int .i64 args[k].n)).setCell ⟨g, k * 3 + 2, none⟩ (.slice a3 args[k].args.length c3)) := by
  have hgl := hgb.lt
  have hgb2 := (((hgb.below hE2).set (k * 3) (.int .u8 args[k].op)).set (k * 3 + 1) (.int .i64 args[k].n)).set (k * 3 + 2) (.slice a3 args[k].args.length c3)
  have hag : Agree (g + 1) wr.heap.size wr (((w2.setCell ⟨g, k * 3, none⟩ (.int .u8 args[k].op)).setCell ⟨g, k * 3 + 1, none⟩ (.int .i64 args[k].n)).setCell ⟨g, k * 3 + 2, none⟩ (.slice a3 args[k].args.length c3)) :=
    (((Agree.of_below hE2).trans (Agree.set _ _ (by simp))).trans (Agree.set _ _ (by simp))).trans (Agree.set _ _ (by simp))
  have hag2 : ∀ hi, Agree (g + 1) hi w2 (((w2.setCell ⟨g, k * 3, none⟩ (.int .u8 args[k].op)).setCell ⟨g, k * 3 + 1, none⟩ (.int .i64 args[k].n)).setCell ⟨g, k * 3 + 2, none⟩ (.slice a3 args[k].args.length c3)) :=
    fun hi => ((Agree.set _ _ (by simp)).trans (Agree.set _ _ (by simp))).trans (Agree.set _ _ (by simp))
  have hs2 := hE2.size
  refine ⟨(((hB0.below hE2).set_other _ _ (by simp; omega)).set_other _ _ (by simp; omega)).set_other _ _ (by simp; omega), (((hB1.below hE2).set_other _ _ (by simp; omega)).set_other _ _ (by simp; omega)).set_other _ _ (by simp; omega),
    ext_set (ext_set (ext_set (ext_trans hbw hE2) (by simp; omega) _) (by simp; omega) _) (by simp; omega) _, fun _ => ⟨g, _, rfl, hg, hgb2, by simpa using hsz, ?_, ?_⟩⟩
  · intro j hj hkj
    obtain ⟨a, c, e0, e1, e2, e3⟩ := hhalf.1 j hj (by omega)
    refine ⟨a, c, ?_, ?_, ?_, e3⟩
    · rw [Array.getElem?_setIfInBounds_ne (by omega), Array.getElem?_setIfInBounds_ne (by omega), Array.getElem?_setIfInBounds_ne (by omega)]; exact e0
    · rw [Array.getElem?_setIfInBounds_ne (by omega), Array.getElem?_setIfInBounds_ne (by omega), Array.getElem?_setIfInBounds_ne (by omega)]; exact e1
    · rw [Array.getElem?_setIfInBounds_ne (by omega), Array.getElem?_setIfInBounds_ne (by omega), Array.getElem?_setIfInBounds_ne (by omega)]; exact e2
  · intro j hj hjk
    by_cases h : j < k
    · obtain ⟨a, c, e0, e1, e2, e3⟩ := hhalf.2 j hj h
      refine ⟨a, c, ?_, ?_, ?_, fun w'' hw'' => e3 w'' (hag.trans (hw''.sub (Nat.le_refl _) (by simp only [size_setCell]; exact hs2)))⟩
      · rw [Array.getElem?_setIfInBounds_ne (by omega), Array.getElem?_setIfInBounds_ne (by omega), Array.getElem?_setIfInBounds_ne (by omega)]; exact e0
      · rw [Array.getElem?_setIfInBounds_ne (by omega), Array.getElem?_setIfInBounds_ne (by omega), Array.getElem?_setIfInBounds_ne (by omega)]; exact e1
      · rw [Array.getElem?_setIfInBounds_ne (by omega), Array.getElem?_setIfInBounds_ne (by omega), Array.getElem?_setIfInBounds_ne (by omega)]; exact e2
    · obtain rfl : j = k := by omega
      refine ⟨a3, c3, ?_, ?_, ?_, fun w'' hw'' => hcp w'' (((hag2 _).trans (hw''.sub (Nat.le_refl _) (by simp only [size_setCell]; exact Nat.le_refl _))).sub (by omega) (Nat.le_refl _))⟩
      · rw [Array.getElem?_setIfInBounds_ne (by omega), Array.getElem?_setIfInBounds_ne (by omega), Array.getElem?_setIfInBounds_self_of_lt (by omega)]
      · rw [Array.getElem?_setIfInBounds_ne (by omega), Array.getElem?_setIfInBounds_self_of_lt (by simp; omega)]
      · rw [Array.getElem?_setIfInBounds_self_of_lt (by simp; omega)]


theorem copyRel_end {w wr w3 : World} {args : List Ex} {op n : Int} {a' : Option Addr} {cap' : Nat} (hb0 : 0 ≤ op ∧ op ≤ 255) (hb1 : -9223372036854775808 ≤ n ∧ n ≤ 9223372036854775807) (hl : args.length ≤ 9223372036854775807)
    (h : CopyRel w args op n a' cap' args.length wr) (hw : Below w.heap.size w w3) (hag : Agree (w.heap.size + 2) wr.heap.size wr w3) (hs : wr.heap.size ≤ w3.heap.size) :
    CopyOf w (.mk op n args) (.returned (.agg #[.int .u8 op, .int .i64 n, .slice a' args.length cap'])) w3 := by
  obtain ⟨-, -, hbw, hrow⟩ := h
  refine ⟨a', cap', rfl, hw, fun w'' hw'' => ?_, fun hne => ?_⟩
  · unfold RdEx
    refine ⟨rfl, rfl, hb0, hb1, a', cap', rfl, hl, fun hne => ?_⟩
    obtain ⟨g, cells, rfl, hg, hgb, hsz, -, hnew⟩ := hrow hne
    refine ⟨g, 0, rfl, RdExs.of_get _ fun k hk => ?_⟩
    have hgl := hgb.lt
    have hgb3 := (hgb.agree hag hg hgl).agree hw'' (by omega) (by omega)
    obtain ⟨a, c, e0, e1, e2, e3⟩ := hnew k hk hk
    simp only [Nat.zero_add]
    exact ⟨_, _, _, hgb3.cell _ e0, hgb3.cell _ e1, hgb3.cell _ e2, e3 w'' ((hag.sub (by omega) (Nat.le_refl _)).trans (hw''.sub (by omega) hs))⟩
  · obtain ⟨g, cells, rfl, hg, hgb, hsz, -, -⟩ := hrow hne
    exact ⟨g, cells, rfl, by omega, hgb.agree hag hg hgb.lt, hsz⟩

set_option maxRecDepth 100000 in
set_option maxHeartbeats 4000000 in
theorem copy_any (s : Nat) : ∀ (e : Ex) (w : World) (v0 v1 v2 : Value), sizeE e ≤ s → sizeE e ≤ 1000000 → RdEx w e v0 v1 v2 →
    Calls Try.prog 46 #[.agg #[v0, v1, v2]] w (CopyOf w e) := by
  induction s with
  | zero => intro e w v0 v1 v2 h; have := sizeE_pos e; omega
  | succ s ih =>
  intro e w v0 v1 v2 hs hm hr
  cases e with | mk op n args =>
  have HR := hid hr
  unfold RdEx at hr
  obtain ⟨rfl, rfl, hb0, hn0, a, cap, rfl, hlen, hx⟩ := hr
  simp only [sizeE] at hs hm
  have IH := hid ih
  have HX := hid hx
  clear ih hx
  have hA := ext_alloc (ext_alloc (ext_refl w) (.cells #[.int .u8 op, .int .i64 n, .slice a args.length cap] 40)) (.cells #[.int .u8 0, .int .i64 0, .slice none 0 0] 40)
  have hla := sizeL_length args
  have HCL := hid (clone_any args w ((w.alloc (.cells #[.int .u8 op, .int .i64 n, .slice a args.length cap] 40)).alloc (.cells #[.int .u8 0, .int .i64 0, .slice none 0 0] 40)) hA a cap (by omega) HX.out)
  go_enter Try.func46, Try.ntmps46
  go_wp2_with fail
  refine HCL.out.mono ?_
  rintro e' w1 ⟨a', cap', rfl, hb1, hcl⟩
  have hc := bcell hb1
  have hf := bfroz hb1
  have hE := ext_trans hA hb1
  have hbk0 : Blk w1 w.heap.size #[.int .u8 op, .int .i64 n, .slice a args.length cap] 40 := Blk.below hb1 (Blk.alloc (Blk.new _ _ _) _)
  have hbk1 : Blk w1 (w.heap.size + 1) #[.int .u8 0, .int .i64 0, .slice none 0 0] 40 := Blk.below hb1 (Blk.new' _ _ _ (by simp))
  have hw0 := hbk0.cell 2 (v := .slice a args.length cap) rfl
  have hw1 := hbk0.free 2
  have hset : Blk (w1.setCell ⟨w.heap.size, 2, none⟩ (.slice a' args.length cap')) w.heap.size #[.int .u8 op, .int .i64 n, .slice a' args.length cap'] 40 := by simpa using hbk0.set 2 (.slice a' args.length cap')
  have hset1 := hset.cell 2 (v := .slice a' args.length cap') rfl
  have hrel0 : CopyRel w args op n a' cap' 0 (w1.setCell ⟨w.heap.size, 2, none⟩ (.slice a' args.length cap')) := by
    refine ⟨hset, hbk1.set_other _ _ (by simp), ext_set hE (by simp) _, fun hne => ?_⟩
    obtain ⟨g, cells, h1, h2, h3, h4, h5⟩ := hcl hne
    simp at h2
    exact ⟨g, cells, h1, h2, h3.set_other _ _ (by simp; omega), h4, fun j hj _ => h5 j hj, fun j hj h => by omega⟩
  have HREL0 := hid hrel0
  clear hcl hbk0 hbk1 hset hrel0 hf hc
  go_wp2_with fail
  go_loopw [12] (fun i wr => ∃ k : Nat, k ≤ args.length ∧ i = .int .i64 k ∧ Hid (CopyRel w args op n a' cap' k wr)) (fun i _ => args.length - (intOf i).toNat)
  case atStart => exact ⟨0, Nat.zero_le _, rfl, HREL0⟩
  case round =>
    obtain ⟨k, hk, rfl, HREL⟩ := hrel
    clear hw0 hw1 hset1
    obtain ⟨hB0, hB1, hbw, hrow⟩ := HREL.out
    by_cases hlt : k < args.length
    · have hne : args ≠ [] := by intro h; subst h; simp at hlt
      obtain ⟨g, cells, rfl, hg, hgb, hsz, hold, hnew⟩ := hrow hne
      obtain ⟨a2, c2, e0, e1, e2, e3⟩ := hold k hlt (Nat.le_refl _)
      have d0 := hgb.cell _ e0
      have d1 := hgb.cell _ e1
      have d2 := hgb.cell _ e2
      have q2 := hB0.cell 2 (v := .slice (some ⟨g, 0, none⟩) args.length cap') rfl
      have hle := sizeL_get_le args k hlt
      have HIH := hid (IH.out args[k] (wr.alloc (.cells #[.int .u8 args[k].op, .int .i64 args[k].n, .slice a2 args[k].args.length c2] 40)).drew _ _ _ (by omega) (by omega) ((e3.below hbw).below (ext_drew (ext_alloc (ext_refl _) _))))
      have HG := hid hgb
      have HOLD := hid hold
      have HNEW := hid hnew
      have HE3 := hid e3
      clear hold hnew hgb e0 e1 e2 e3 hrow hne hle
      have hgl := HG.out.lt
      go_wp2_with fail
      go_region_held3 (fun w' => w'.cell? ⟨w.heap.size, 2, none⟩ = some (.slice (some ⟨g, 0, none⟩) args.length cap') ∧ w'.cell? ⟨wr.heap.size, 0, none⟩ = some (.int .u8 args[k].op) ∧
          w'.cell? ⟨wr.heap.size, 1, none⟩ = some (.int .i64 args[k].n) ∧ w'.cell? ⟨wr.heap.size, 2, none⟩ = some (.slice a2 args[k].args.length c2))
        (first | go_keep | (go_split_ands; refine ⟨?_, ?_, ?_, ?_⟩ <;> exact later hb2 (by assumption)) | (go_split_ands; refine ⟨?_, ?_, ?_, ?_⟩ <;> exact cell_set (cell_set (cell_set (by assumption) _ _ (by simp; omega)) _ _ (by simp; omega)) _ _ (by simp; omega)))
        (first | (go_at_call 46; refine HIH.out.mono ?_; rintro e' w2 ⟨a3, c3, rfl, hb2, hcp1, hcp2⟩; have hE2 : Below wr.heap.size wr w2 := ext_trans (ext_drew (ext_alloc (ext_refl _) _)) hb2; have hgb2 := Blk.below hE2 HG.out; have f0 := hgb2.free (k * 3); have f1 := hgb2.free (k * 3 + 1); have f2 := hgb2.free (k * 3 + 2); have s0 := later hE2 d0; have s1 := later hE2 d1; have s2 := later hE2 d2; have HGB2 := hid hgb2; have HCP1 := hid hcp1; clear hgb2 hcp1 hcp2))
      have HST := hid (copyRel_step hlt hE2 hB0 hB1 hbw hg HG.out hsz ⟨HOLD.out, HNEW.out⟩ (by simp) HCP1.out)
      go_wp2_with fail
      go_roundw
      case rel => exact ⟨k + 1, hlt, by go_num, HST⟩
      case measure => simp [intOf]; omega
    · obtain rfl : k = args.length := by omega
      have q0 := hB0.cell 0 (v := .int .u8 op) rfl
      have q1 := hB0.cell 1 (v := .int .i64 n) rfl
      have q2 := hB0.cell 2 (v := .slice a' args.length cap') rfl
      have r0 := hB1.cell 0 rfl
      have r1 := hB1.cell 1 rfl
      have r2 := hB1.cell 2 rfl
      have r3 := fun o => hB1.free o
      have hfin := ((hB1.set 0 (.int .u8 op)).set 1 (.int .i64 n)).set 2 (.slice a' args.length cap')
      have t0 := hfin.cell 0 (v := .int .u8 op) (by simp)
      have t1 := hfin.cell 1 (v := .int .i64 n) (by simp)
      have t2 := hfin.cell 2 (v := .slice a' args.length cap') (by simp)
      have HEND := hid (copyRel_end (w3 := ((wr.setCell ⟨w.heap.size + 1, 0, none⟩ (.int .u8 op)).setCell ⟨w.heap.size + 1, 1, none⟩ (.int .i64 n)).setCell ⟨w.heap.size + 1, 2, none⟩ (.slice a' args.length cap')) hb0 hn0 hlen HREL.out
        (ext_set (ext_set (ext_set hbw (by simp) _) (by simp) _) (by simp) _) (((Agree.set _ _ (by simp)).trans (Agree.set _ _ (by simp))).trans (Agree.set _ _ (by simp))) (by simp only [size_setCell]; exact Nat.le_refl _))
      clear hfin hrow HREL HREL0
      go_wp2_with fail
      exact bodyPost_ret (v := .agg #[.int .u8 op, .int .i64 n, .slice a' args.length cap']) (by simp [results, Try.results46, go_sem, t0, t1, t2]) rfl HEND.out
end Go.Proofs.Ytoeegiaajngpeaa
/-
  Copy of expressions by the document, walked: by append, one by one.
-/
namespace Go.Proofs.Ytoeegiaajngpeaa
set_option linter.unusedVariables false
open Go Go.RowKit

section
variable {P : Program} (w : World)
theorem step_append_at {ops : Array Oper} {o : Oper} {a : Act} {K : Act → World → Prop} {Q : Exit → Act → World → Prop} {E : Prop} (hgd : o.guard = none) (s x : Operand) (t : TypeId)
    (ho : o.op = .call { callee := .builtin .append, args := #[s, x], argTypes := #[t, t] })
    (base : Nat) (e : TypeId) (i : TypeInfo) (z : Value) (size bytes : Nat) (ht : P.underlying t = some (.slice e)) (hi : P.info? e = some i) (hz : i.zero = some z)
    (hsize : i.size = size) (hby : i.bytes = bytes) (hzs : z.cells.size = size) (hsz : 0 < size)
    (v : Value) (n : Nat) (xs : List Value) (hs : a.eval s = v) (hown : w.ownsRow base e size v n xs)
    (ad : Addr) (m c : Nat) (news : List Value) (hx : a.eval x = .slice (some ad) m c) (hl : news.length = m * size) (hnews : ∀ j u, news[j]? = some u → w.cell? (ad.add j) = some u) (h1 : ∀ u ∈ news, u.oneCell' = true)
    (h63 : n + m ≤ maxLen) (hbytes : (n + m) * bytes ≤ 140737488355328) (hbase : base ≤ w.heap.size)
    (h : ∀ v' w', w'.ownsRow base e size v' (n + m) (xs ++ news) → w.grownBy w' v.ownBlock → (v'.ownBlock = v.ownBlock ∨ v'.ownBlock = some w.heap.size) → K (a.put o.dst v') w') :
    if Region.wanted o (yielded ops a.tmps) = true then Oper.wp P o a w K Q else E := by
  have hw : Region.wanted o (yielded ops a.tmps) = true := by simp [Region.wanted, hgd]
  rw [if_pos hw]
  obtain ⟨v', w', hr, h2, h3, -, h4⟩ := run_append_own_at (P := P) w base t o.type e i z size bytes ht hi hz hsize hby hzs hsz v n xs hown ad m c news hl hnews h1 h63 hbytes hbase
  unfold Oper.wp execOp
  simp only [ho, resolve, invoke, builtin, Sem.run_bind, Sem.run_pure, Result.andThen_ok, List.map_toArray, List.map_cons, List.map_nil, hs, hx, hr]
  exact h v' w' h2 h3 h4
end

theorem ownsRow_frame {w w' : World} {base size n : Nat} {e : TypeId} {v : Value} {xs : List Value} (h : w.ownsRow base e size v n xs) (hb : ∀ g, v.ownBlock = some g → w'.heap[g]? = w.heap[g]?) : w'.ownsRow base e size v n xs := by
  obtain ⟨h1, h2 | ⟨g, cap, cur, rfl, hg, hh, r⟩⟩ := h
  · exact ⟨h1, .inl h2⟩
  · exact ⟨h1, .inr ⟨g, cap, cur, rfl, hg, (hb g rfl).trans hh, r⟩⟩

/-- A row that has grown to k copies, the row of the call's own, the copies each in blocks of their own. -/
def RowOf (wr : World) (B : Nat) (args : List Ex) (k : Nat) (v : Value) (news : List Value) : Prop :=
  wr.ownsRow B 40 3 v k news ∧ B ≤ wr.heap.size ∧ ∀ j (h : j < args.length), j < k → ∃ a cap lo hi, news[j * 3]? = some (.int .u8 args[j].op) ∧ news[j * 3 + 1]? = some (.int .i64 args[j].n) ∧ news[j * 3 + 2]? = some (.slice a args[j].args.length cap) ∧
    B ≤ lo ∧ hi ≤ wr.heap.size ∧ (∀ g, v.ownBlock = some g → g < lo ∨ hi ≤ g) ∧ ∀ w'', Agree lo hi wr w'' → RdEx w'' args[j] (.int .u8 args[j].op) (.int .i64 args[j].n) (.slice a args[j].args.length cap)

theorem rowOf_step {wr w1 w2 : World} {B k : Nat} {args : List Ex} {v v' : Value} {news : List Value} {o : Obj} {a3 : Option Addr} {c3 : Nat} (hlt : k < args.length) (h : RowOf wr B args k v news) (hB : 0 < B)
    (hb1 : Below wr.heap.size wr w1) (hcp : ∀ w'', Agree wr.heap.size w1.heap.size w1 w'' → RdEx w'' args[k] (.int .u8 args[k].op) (.int .i64 args[k].n) (.slice a3 args[k].args.length c3))
    (hown : w2.ownsRow B 40 3 v' (k + 1) (news ++ [.int .u8 args[k].op, .int .i64 args[k].n, .slice a3 args[k].args.length c3])) (hg : (w1.alloc o).grownBy w2 v.ownBlock)
    (hd : v'.ownBlock = v.ownBlock ∨ v'.ownBlock = some (w1.alloc o).heap.size) :
    RowOf (w2.setCell ⟨B - 1, 2, none⟩ v') B args (k + 1) v' (news ++ [.int .u8 args[k].op, .int .i64 args[k].n, .slice a3 args[k].args.length c3]) := by
  obtain ⟨hrow, hBw, hel⟩ := h
  have hlen := hrow.1
  have hvl : ∀ g, v.ownBlock = some g → B ≤ g ∧ g < wr.heap.size := hrow.lt
  have hs1 := hb1.size
  have hsA : (w1.alloc o).heap.size = w1.heap.size + 1 := by simp
  have hs2 := hg.size
  have hblk : ∀ b, B ≤ b → b < w1.heap.size → v.ownBlock ≠ some b → (w2.setCell ⟨B - 1, 2, none⟩ v').heap[b]? = w1.heap[b]? := by
    intro b h1 h2 h3
    rw [Below.heap_setCell _ _ _ _ (by dsimp only; omega), hg.block b (by omega) (fun h => h3 h.symm)]
    exact (ext_alloc (ext_refl w1) o).block b h2
  refine ⟨ownsRow_frame hown fun g hg' => ?_, by simp only [size_setCell]; omega, fun j hj hjk => ?_⟩
  · have := hown.lt g hg'
    exact Below.heap_setCell _ _ _ _ (by dsimp only; omega)
  · by_cases hc : j < k
    · obtain ⟨a, cap, lo, hi, e0, e1, e2, e3, e4, e5, e6⟩ := hel j hj hc
      have hj3 : j * 3 + 2 < news.length := by omega
      refine ⟨a, cap, lo, hi, ?_, ?_, ?_, e3, by simp only [size_setCell]; omega, ?_, fun w'' hw'' => e6 w'' (Agree.trans (fun b hb1' hb2' => ?_) hw'')⟩
      · rw [List.getElem?_append_left (by omega)]; exact e0
      · rw [List.getElem?_append_left (by omega)]; exact e1
      · rw [List.getElem?_append_left (by omega)]; exact e2
      · intro g hg'
        rcases hd with hd | hd
        · exact e5 g (hd ▸ hg')
        · rw [hd] at hg'; obtain rfl := Option.some.inj hg'; right; omega
      · rw [hblk b (by omega) (by omega) (fun h => by rcases e5 b h with h | h <;> omega)]
        exact hb1.block b (by omega)
    · obtain rfl : j = k := by omega
      refine ⟨a3, c3, wr.heap.size, w1.heap.size, ?_, ?_, ?_, hBw, by simp only [size_setCell]; omega, ?_, fun w'' hw'' => hcp w'' (Agree.trans (fun b hb1' hb2' => ?_) hw'')⟩
      · rw [List.getElem?_append_right (by omega), show j * 3 - news.length = 0 by omega]; rfl
      · rw [List.getElem?_append_right (by omega), show j * 3 + 1 - news.length = 1 by omega]; rfl
      · rw [List.getElem?_append_right (by omega), show j * 3 + 2 - news.length = 2 by omega]; rfl
      · intro g hg'
        rcases hd with hd | hd
        · left; exact (hvl g (hd ▸ hg')).2
        · rw [hd] at hg'; obtain rfl := Option.some.inj hg'; right; omega
      · exact hblk b (by omega) hb2' (fun h => by have := (hvl b h).2; omega)

/-- What the document's Copy hands back. -/
def RCopyOf (w : World) (e : Ex) (en : Ending) (w' : World) : Prop :=
  ∃ a cap, en = .returned (.agg #[.int .u8 e.op, .int .i64 e.n, .slice a e.args.length cap]) ∧ Below w.heap.size w w' ∧
    (∀ w'', Agree w.heap.size w'.heap.size w' w'' → RdEx w'' e (.int .u8 e.op) (.int .i64 e.n) (.slice a e.args.length cap))

theorem rowOf_end {w wr w3 : World} {args : List Ex} {op n : Int} {v : Value} {news : List Value} {B : Nat} (hb0 : 0 ≤ op ∧ op ≤ 255) (hb1 : -9223372036854775808 ≤ n ∧ n ≤ 9223372036854775807) (hl : args.length ≤ 9223372036854775807)
    (h : RowOf wr B args args.length v news) (hB : w.heap.size ≤ B) (hw : Below w.heap.size w w3) (hag : Agree B wr.heap.size wr w3) (hs : wr.heap.size ≤ w3.heap.size) :
    RCopyOf w (.mk op n args) (.returned (.agg #[.int .u8 op, .int .i64 n, v])) w3 := by
  obtain ⟨hrow, hBw, hel⟩ := h
  have hrow' := hrow
  obtain ⟨hlen, ⟨rfl, h0⟩ | ⟨g, cap, cur, rfl, hg, hh, hn, hm, hcs, htk⟩⟩ := hrow
  · refine ⟨none, 0, by simp [Ex.op, Ex.n, Ex.args, h0], hw, fun w'' hw'' => ?_⟩
    unfold RdEx
    refine ⟨rfl, rfl, hb0, hb1, none, 0, rfl, hl, fun hne => absurd (List.eq_nil_of_length_eq_zero h0) hne⟩
  · refine ⟨_, cap, rfl, hw, fun w'' hw'' => ?_⟩
    unfold RdEx
    refine ⟨rfl, rfl, hb0, hb1, _, cap, rfl, hl, fun hne => ⟨g, 0, rfl, RdExs.of_get _ fun k hk => ?_⟩⟩
    have hgl : g < wr.heap.size := (hrow'.lt g rfl).2
    have hgb : Blk wr g cur 40 := hh
    have hgb3 := (hgb.agree hag hg hgl).agree hw'' (by omega) (by omega)
    obtain ⟨a, c, lo, hi, e0, e1, e2, e3, e4, e5, e6⟩ := hel k hk hk
    have key : ∀ (j : Nat) (u : Value), news[j]? = some u → cur[j]? = some u := by
      intro j u hu
      rw [← htk, List.getElem?_take] at hu
      split at hu
      · simpa using hu
      · cases hu
    simp only [Nat.zero_add]
    exact ⟨_, _, _, hgb3.cell _ (key _ _ e0), hgb3.cell _ (key _ _ e1), hgb3.cell _ (key _ _ e2), e6 w'' ((hag.sub e3 e4).trans (hw''.sub (by omega) (by omega)))⟩
end Go.Proofs.Ytoeegiaajngpeaa
/-
  Copy of expressions by the document, walked (the walk itself).
-/
namespace Go.Proofs.Ytoeegiaajngpeaa
set_option linter.unusedVariables false
open Go Go.RowKit

theorem rowOf_frame {wr w1 : World} {B k : Nat} {args : List Ex} {v : Value} {news : List Value} (h : RowOf wr B args k v news) (hb1 : Below wr.heap.size wr w1) (o : Obj) : (w1.alloc o).ownsRow B 40 3 v k news :=
  ownsRow_frame h.1 fun g hg => ((ext_alloc (ext_refl w1) o).block g (Nat.lt_of_lt_of_le (h.1.lt g hg).2 hb1.size)).trans (hb1.block g (h.1.lt g hg).2)
theorem cells3 (w1 : World) (x y z : Value) (t : TypeId) : ∀ (j : Nat) (u : Value), [x, y, z][j]? = some u → (w1.alloc (.cells #[x, y, z] t)).cell? ((⟨w1.heap.size, 0, none⟩ : Addr).add j) = some u := by
  intro j u hu
  have hb := Blk.new w1 #[x, y, z] t
  match j, hu with
  | 0, hu => exact hb.cell 0 (by simpa using hu)
  | 1, hu => exact hb.cell 1 (by simpa using hu)
  | 2, hu => exact hb.cell 2 (by simpa using hu)
theorem grown_low {wr w1 w2 : World} {B k : Nat} {args : List Ex} {v : Value} {news : List Value} {o : Obj} (h : RowOf wr B args k v news) (hb1 : Below wr.heap.size wr w1) (hg : (w1.alloc o).grownBy w2 v.ownBlock) :
    ∀ b, b < B → w2.heap[b]? = wr.heap[b]? := by
  intro b hb
  have hbw : b < wr.heap.size := Nat.lt_of_lt_of_le hb h.2.1
  have hb1s := hb1.size
  rw [hg.block b (by simp; omega) (fun he => by have := (h.1.lt b he.symm).1; omega)]
  exact ((ext_alloc (ext_refl w1) o).block b (by omega)).trans (hb1.block b hbw)
theorem grown_below {w wr w1 w2 : World} {B : Nat} {row : Option Nat} {o : Obj} (hw : Below w.heap.size w wr) (hb1 : Below wr.heap.size wr w1) (hg : (w1.alloc o).grownBy w2 row) (hrow : ∀ g, row = some g → w.heap.size ≤ g) : Below w.heap.size w w2 := by
  have h1 := ext_alloc (ext_trans hw hb1) o
  exact h1.grown hg h1.size hrow

theorem ownsRow_shape {w : World} {base size n : Nat} {e : TypeId} {v : Value} {xs : List Value} (h : w.ownsRow base e size v (n + 1) xs) : ∃ g cap, v = .slice (some ⟨g, 0, none⟩) (n + 1) cap := by
  obtain ⟨-, ⟨-, h⟩ | ⟨g, cap, cur, rfl, -⟩⟩ := h
  · omega
  · exact ⟨g, cap, rfl⟩

theorem ownsRow_slice {w : World} {base size n : Nat} {e : TypeId} {v : Value} {xs : List Value} (h : w.ownsRow base e size v n xs) : ∃ A m c, v = .slice A m c := by
  obtain ⟨-, ⟨rfl, h⟩ | ⟨g, cap, cur, rfl, -⟩⟩ := h
  · exact ⟨_, _, _, rfl⟩
  · exact ⟨_, _, _, rfl⟩

set_option maxRecDepth 100000 in
set_option maxHeartbeats 4000000 in
theorem rcopy_any (s : Nat) : ∀ (e : Ex) (w : World) (v0 v1 v2 : Value), sizeE e ≤ s → sizeE e ≤ 1000000 → RdEx w e v0 v1 v2 →
    Calls Try.prog 45 #[.agg #[v0, v1, v2]] w (RCopyOf w e) := by
  induction s with
  | zero => intro e w v0 v1 v2 h; have := sizeE_pos e; omega
  | succ s ih =>
  intro e w v0 v1 v2 hs hm hr
  cases e with | mk op n args =>
  unfold RdEx at hr
  obtain ⟨rfl, rfl, hb0, hn0, a, cap, rfl, hlen, hx⟩ := hr
  simp only [sizeE] at hs hm
  have IH := hid ih
  have HX := hid hx
  clear ih hx
  have hla := sizeL_length args
  obtain ⟨i0, hi0, hz0, hz1, hz2⟩ := info_parts infoExpr
  have hA := ext_alloc (ext_alloc (ext_alloc (ext_refl w) (.cells #[.int .u8 op, .int .i64 n, .slice a args.length cap] 40)) (.cells #[.int .u8 0, .int .i64 0, .slice none 0 0] 40)) (.cells #[.int .u8 op, .int .i64 n, .slice none 0 0] 40)
  go_enter Try.func45, Try.ntmps45
  go_wp2_with fail
  go_loopw [4] (fun i wr => ∃ (k : Nat) (v : Value) (news : List Value), k ≤ args.length ∧ i = .int .i64 k ∧ Hid (RowOf wr (w.heap.size + 3) args k v news) ∧ Hid (Blk wr w.heap.size #[.int .u8 op, .int .i64 n, .slice a args.length cap] 40) ∧
      Hid (Blk wr (w.heap.size + 1) #[.int .u8 0, .int .i64 0, .slice none 0 0] 40) ∧ Hid (Blk wr (w.heap.size + 1 + 1) #[.int .u8 op, .int .i64 n, v] 40) ∧ Below w.heap.size w wr) (fun i _ => args.length - (intOf i).toNat)
  case atStart =>
    refine ⟨0, .slice none 0 0, [], Nat.zero_le _, rfl, ⟨World.ownsRow_nil _ _ _ _, by simp, fun j _ h => by omega⟩, hid (((Blk.new _ _ _).alloc _).alloc _), hid ((Blk.new' _ _ _ (by simp)).alloc _), hid (Blk.new' _ _ _ (by simp)), hA⟩
  case round =>
    obtain ⟨k, v, news, hk, rfl, HROW, HB0, HB1, HB2, hb⟩ := hrel
    by_cases hlt : k < args.length
    · have hne : args ≠ [] := by intro h; subst h; simp at hlt
      obtain ⟨b, off, rfl, hrd⟩ := HX.out hne
      obtain ⟨a2, c2, d0, d1, d2, e3⟩ := hrd.get' k hlt
      have lc := lt_of_cell d0
      have D0 := hid d0
      have D1 := hid d1
      have D2 := hid d2
      have q0 := later hb d0
      have q1 := later hb d1
      have q2 := later hb d2
      have p0 := HB0.out.cell 2 (v := .slice (some ⟨b, off, none⟩) args.length cap) rfl
      have p1 := HB2.out.cell 2 (v := v) rfl
      have P0 := hid p0
      have hle := sizeL_get_le args k hlt
      have HIH := hid (IH.out args[k] wr.drew _ _ _ (by omega) (by omega) ((e3.below hb).below (ext_drew (ext_refl _))))
      have hm1 : k + 1 ≤ maxLen := by unfold maxLen; omega
      have hm2 : (k + 1) * 40 ≤ 140737488355328 := by omega
      have HM1 := hid hm1
      have HM2 := hid hm2
      clear d0 d1 d2 e3 hne hle hm1 hm2 hrd
      go_wp2_with fail
      go_region_law
        (first
          | (go_simp; go_at_call 45; refine HIH.out.mono ?_; rintro e' w1 ⟨a3, c3, rfl, hb1, hcp1⟩; have hE1 : Below wr.heap.size wr w1 := ext_trans (ext_drew (ext_refl _)) hb1; have r1 := later hE1 p1; have r1l := lt_of_cell r1; have r2 := later (ext_alloc (ext_refl w1) (.cells #[.int .u8 args[k].op, .int .i64 args[k].n, .slice a3 args[k].args.length c3] 40)) r1; have HCP := hid hcp1; clear hcp1)
          | (refine step_append_at _ (by rfl) _ _ _ (by rfl) (w.heap.size + 3) 40 i0 _ 3 40 Try.underlying38 hi0 hz0 hz1 hz2 rfl (by decide) v k news (by rfl) (rowOf_frame HROW.out hE1 _) ⟨w1.heap.size, 0, none⟩ 1 1
              [.int .u8 args[k].op, .int .i64 args[k].n, .slice a3 args[k].args.length c3] (by rfl) (by rfl) (cells3 _ _ _ _ _) (by simp [Value.oneCell']) HM1.out HM2.out (by have := HROW.out.2.1; have := hE1.size; simp; omega) ?_
             intro v' w2 hown2 hg2 hd2
             obtain ⟨g', cap', rfl⟩ := ownsRow_shape hown2
             have hlow := grown_low HROW.out hE1 hg2
             have f0 : w2.cell? ⟨w.heap.size, 2, none⟩ = some (.slice (some ⟨b, off, none⟩) args.length cap) := (World.cell?_of_block (hlow _ (by dsimp only; omega))).trans P0.out
             have f1 : w2.cell? ⟨b, off + k * 3, none⟩ = some (.int .u8 args[k].op) := (World.cell?_of_block (hlow _ (by dsimp only; omega))).trans (later hb D0.out)
             have f2 : w2.cell? ⟨b, off + k * 3 + 1, none⟩ = some (.int .i64 args[k].n) := (World.cell?_of_block (hlow _ (by dsimp only; omega))).trans (later hb D1.out)
             have f3 : w2.cell? ⟨b, off + k * 3 + 2, none⟩ = some (.slice a2 args[k].args.length c2) := (World.cell?_of_block (hlow _ (by dsimp only; omega))).trans (later hb D2.out)
             have g1 : Blk w2 (w.heap.size + 1 + 1) #[.int .u8 op, .int .i64 n, v] 40 := (hlow _ (by omega)).trans HB2.out
             have g2 := g1.cell 2 (v := v) rfl
             have g3 := g1.free 2
             have HG1 := hid g1
             have HLOW := hid hlow
             have HST : Hid (RowOf (w2.setCell ⟨w.heap.size + 1 + 1, 2, none⟩ (.slice (some ⟨g', 0, none⟩) (k + 1) cap')) (w.heap.size + 3) args (k + 1) (.slice (some ⟨g', 0, none⟩) (k + 1) cap') _) := hid (rowOf_step hlt HROW.out (by omega) hE1 HCP.out hown2 hg2 hd2)
             have HBEL := hid (grown_below (B := 0) hb hE1 hg2 (fun g hg => by have := (HROW.out.1.lt g hg).1; omega))
             clear g1 hlow hown2 hg2 hd2))
      all_goals go_wp2_with fail
      all_goals go_roundw
      case rel | rel | rel | rel | rel => exact ⟨k + 1, _, _, hlt, by go_num, HST, hid (Blk.set_other ((HLOW.out _ (by omega)).trans HB0.out) _ _ (by dsimp only; omega)), hid (Blk.set_other ((HLOW.out _ (by omega)).trans HB1.out) _ _ (by dsimp only; omega)), hid (by simpa using HG1.out.set 2 (.slice (some ⟨g', 0, none⟩) (k + 1) cap')), ext_set HBEL.out (by dsimp only; omega) _⟩
      all_goals (simp [intOf]; omega)
    · obtain rfl : k = args.length := by omega
      obtain ⟨vA, vm, vc, rfl⟩ := ownsRow_slice HROW.out.1
      have hB1 := HB1.out
      have hB2 := HB2.out
      have p0 := HB0.out.cell 2 (v := .slice a args.length cap) rfl
      have q0 := hB2.cell 0 (v := .int .u8 op) rfl
      have q1 := hB2.cell 1 (v := .int .i64 n) rfl
      have q2 := hB2.cell 2 (v := .slice vA vm vc) rfl
      have r0 := hB1.cell 0 rfl
      have r1 := hB1.cell 1 rfl
      have r2 := hB1.cell 2 rfl
      have r3 := fun o => hB1.free o
      have hfin := ((hB1.set 0 (.int .u8 op)).set 1 (.int .i64 n)).set 2 (.slice vA vm vc)
      have t0 := hfin.cell 0 (v := .int .u8 op) (by simp)
      have t1 := hfin.cell 1 (v := .int .i64 n) (by simp)
      have t2 := hfin.cell 2 (v := .slice vA vm vc) (by simp)
      have HEND := hid (rowOf_end (w3 := ((wr.setCell ⟨w.heap.size + 1, 0, none⟩ (.int .u8 op)).setCell ⟨w.heap.size + 1, 1, none⟩ (.int .i64 n)).setCell ⟨w.heap.size + 1, 2, none⟩ (.slice vA vm vc)) hb0 hn0 hlen HROW.out (by omega)
        (ext_set (ext_set (ext_set hb (by simp) _) (by simp) _) (by simp) _) (((Agree.set _ _ (by dsimp only; omega)).trans (Agree.set _ _ (by dsimp only; omega))).trans (Agree.set _ _ (by dsimp only; omega))) (by simp only [size_setCell]; exact Nat.le_refl _))
      clear hfin
      go_wp2_with fail
      exact bodyPost_ret (v := .agg #[.int .u8 op, .int .i64 n, .slice vA vm vc]) (by simp [results, Try.results45, go_sem, t0, t1, t2]) rfl HEND.out
end Go.Proofs.Ytoeegiaajngpeaa
