/-
  The checker in memory; walks: what its methods call.
-/
import Derived.Test.YtcddlnmcjmhbcaaDoorProg
import Derived.Test.YtcddlnmcjmhbcaaDoorRgG
import Derived.Test.YtcddlnmcjmhbcaaDoorRgF
import Derived.Deep.QuietTactic
import Derived.BigQuiet
import Derived.Deep.RegionHeld3
import Derived.Laws.BitsAll
namespace Go.Proofs.YtcddlnmcjmhbcaaDoor
set_option linter.unusedVariables false
open Go Go.RowKit

def thL (t : Th) : List Value := [.int .i64 t.at_, .int .i64 t.commits, .int .i64 t.rv, .int .i64 t.wv, .int .i64 t.stripe, .int .i64 t.v, .int .u32 (t.read : Int), .int .u32 (t.owned : Int), .int .u32 (t.stored : Int), .int .u32 (t.check : Int), .int .i64 t.locked, .int .i64 t.var, .bool t.full]
def stL (p : Int × Int) : List Value := [.int .i64 p.1, .int .i64 p.2]
/-- A checker in memory: its own block, the threads' rows, the stripes' rows. -/
structure CkR (w : World) (c tb sb T n : Nat) (vars clock ev : Int) (R S : List (List Value)) : Prop where
  ck : Blk w c #[.int .i64 vars, .int .i64 clock, .int .i64 ev, .slice (some ⟨tb, 0, none⟩) T T, .slice (some ⟨sb, 0, none⟩) n n] 85
  th : Blk w tb (flatA R) 93
  st : Blk w sb (flatA S) 83
  ne : c ≠ tb ∧ c ≠ sb ∧ tb ≠ sb
  lt : ∀ r ∈ R, r.length = 13
  ls : ∀ r ∈ S, r.length = 2
  nt : R.length = T
  ns : S.length = n
def CkAt (w : World) (c tb sb : Nat) (s : Sh) (ev : Nat) : Prop := CkR w c tb sb s.ths.length s.sts.length s.vars s.clock ev (s.ths.map thL) (s.sts.map stL)
section
variable {w : World} {c tb sb T n : Nat} {vars clock ev : Int} {R S : List (List Value)}
theorem CkR.turn {w' : World} (h : CkR w c tb sb T n vars clock ev R S) {l : List Nat} (ht : Turn l w w') (h1 : c ∉ l) (h2 : tb ∉ l) (h3 : sb ∉ l) : CkR w' c tb sb T n vars clock ev R S :=
  ⟨ht.blk h1 h.ck, ht.blk h2 h.th, ht.blk h3 h.st, h.ne, h.lt, h.ls, h.nt, h.ns⟩
theorem CkR.below {w' : World} (h : CkR w c tb sb T n vars clock ev R S) (hb : Below w.heap.size w w') : CkR w' c tb sb T n vars clock ev R S :=
  ⟨h.ck.below hb, h.th.below hb, h.st.below hb, h.ne, h.lt, h.ls, h.nt, h.ns⟩
theorem CkR.drew (h : CkR w c tb sb T n vars clock ev R S) : CkR w.drew c tb sb T n vars clock ev R S := ⟨h.ck.drew, h.th.drew, h.st.drew, h.ne, h.lt, h.ls, h.nt, h.ns⟩
theorem CkR.drewN (h : CkR w c tb sb T n vars clock ev R S) (m : Nat) : CkR (w.drewN m) c tb sb T n vars clock ev R S := h.below (ext_drewN (ext_refl _) m)
theorem CkR.alloc (h : CkR w c tb sb T n vars clock ev R S) (o : Obj) : CkR (w.alloc o) c tb sb T n vars clock ev R S := h.below (ext_alloc (ext_refl _) o)
theorem CkR.set_t (h : CkR w c tb sb T n vars clock ev R S) {i k : Nat} (v : Value) (hi : i < T) (hk : k < 13) : CkR (w.setCell ⟨tb, i * 13 + k, none⟩ v) c tb sb T n vars clock ev (R.modify i (fun r => r.set k v)) S :=
  ⟨h.ck.set_other _ _ (by simpa using h.ne.1), by rw [← flatA_set h.lt i k v (by rw [h.nt]; exact hi) hk]; exact h.th.set _ _, h.st.set_other _ _ (by simpa using h.ne.2.2.symm), h.ne, modify_len h.lt _ _ (by simp), h.ls, by simp [h.nt], h.ns⟩
theorem CkR.set_t0 (h : CkR w c tb sb T n vars clock ev R S) {i : Nat} (v : Value) (hi : i < T) : CkR (w.setCell ⟨tb, i * 13, none⟩ v) c tb sb T n vars clock ev (R.modify i (fun r => r.set 0 v)) S := h.set_t (k := 0) v hi (by omega)
theorem CkR.set_s (h : CkR w c tb sb T n vars clock ev R S) {i k : Nat} (v : Value) (hi : i < n) (hk : k < 2) : CkR (w.setCell ⟨sb, i * 2 + k, none⟩ v) c tb sb T n vars clock ev R (S.modify i (fun r => r.set k v)) :=
  ⟨h.ck.set_other _ _ (by simpa using h.ne.2.1), h.th.set_other _ _ (by simpa using h.ne.2.2), by rw [← flatA_set h.ls i k v (by rw [h.ns]; exact hi) hk]; exact h.st.set _ _, h.ne, h.lt, modify_len h.ls _ _ (by simp), h.nt, by simp [h.ns]⟩
theorem CkR.set_s0 (h : CkR w c tb sb T n vars clock ev R S) {i : Nat} (v : Value) (hi : i < n) : CkR (w.setCell ⟨sb, i * 2, none⟩ v) c tb sb T n vars clock ev R (S.modify i (fun r => r.set 0 v)) := h.set_s (k := 0) v hi (by omega)
theorem CkR.set_clock (h : CkR w c tb sb T n vars clock ev R S) (x : Int) : CkR (w.setCell ⟨c, 1, none⟩ (.int .i64 x)) c tb sb T n vars x ev R S :=
  ⟨h.ck.set 1 _, h.th.set_other _ _ (by simpa using h.ne.1.symm), h.st.set_other _ _ (by simpa using h.ne.2.1.symm), h.ne, h.lt, h.ls, h.nt, h.ns⟩
theorem CkR.set_ev (h : CkR w c tb sb T n vars clock ev R S) (x : Int) : CkR (w.setCell ⟨c, 2, none⟩ (.int .i64 x)) c tb sb T n vars clock x R S :=
  ⟨h.ck.set 2 _, h.th.set_other _ _ (by simpa using h.ne.1.symm), h.st.set_other _ _ (by simpa using h.ne.2.1.symm), h.ne, h.lt, h.ls, h.nt, h.ns⟩
end
theorem map_modify {α : Type} (L : List α) (f : α → List Value) (i : Nat) (g : List Value → List Value) (x : α) (hi : i < L.length) (h : g (f L[i]) = f x) : (L.map f).modify i g = (L.set i x).map f := by
  rw [modify_is_set (L.map f) i g (by simpa using hi) (r := f x) (by simpa using h), List.map_set]
section
variable {w : World} {c tb sb : Nat} {s : Sh} {ev : Nat}
/-- The cells of the checker, of one thread, of one stripe. -/
theorem CkAt.cells (h : CkAt w c tb sb s ev) : w.cell? ⟨c, 0, none⟩ = some (.int .i64 s.vars) ∧ w.cell? ⟨c, 1, none⟩ = some (.int .i64 s.clock) ∧ w.cell? ⟨c, 2, none⟩ = some (.int .i64 (ev : Int)) ∧ w.cell? ⟨c, 3, none⟩ = some (.slice (some ⟨tb, 0, none⟩) s.ths.length s.ths.length) ∧ w.cell? ⟨c, 4, none⟩ = some (.slice (some ⟨sb, 0, none⟩) s.sts.length s.sts.length) := by
  refine ⟨h.ck.cell 0 rfl, h.ck.cell 1 rfl, h.ck.cell 2 rfl, ?_, ?_⟩
  · exact h.ck.cell 3 rfl
  · exact h.ck.cell 4 rfl
theorem CkAt.t (h : CkAt w c tb sb s ev) {i : Nat} (hi : i < s.ths.length) {t : Th} (ht : s.ths.getD i Th.zero = t) :
    w.cell? ⟨tb, i * 13, none⟩ = some (.int .i64 t.at_) ∧ w.cell? ⟨tb, i * 13 + 1, none⟩ = some (.int .i64 t.commits) ∧ w.cell? ⟨tb, i * 13 + 2, none⟩ = some (.int .i64 t.rv) ∧ w.cell? ⟨tb, i * 13 + 3, none⟩ = some (.int .i64 t.wv) ∧ w.cell? ⟨tb, i * 13 + 4, none⟩ = some (.int .i64 t.stripe) ∧ w.cell? ⟨tb, i * 13 + 5, none⟩ = some (.int .i64 t.v) ∧
      w.cell? ⟨tb, i * 13 + 6, none⟩ = some (.int .u32 (t.read : Int)) ∧ w.cell? ⟨tb, i * 13 + 7, none⟩ = some (.int .u32 (t.owned : Int)) ∧ w.cell? ⟨tb, i * 13 + 8, none⟩ = some (.int .u32 (t.stored : Int)) ∧ w.cell? ⟨tb, i * 13 + 9, none⟩ = some (.int .u32 (t.check : Int)) ∧ w.cell? ⟨tb, i * 13 + 10, none⟩ = some (.int .i64 t.locked) ∧ w.cell? ⟨tb, i * 13 + 11, none⟩ = some (.int .i64 t.var) ∧ w.cell? ⟨tb, i * 13 + 12, none⟩ = some (.bool t.full) := by
  have hg : ∀ k, k < 13 → (flatA (s.ths.map thL))[i * 13 + k]? = (thL t)[k]? := by
    intro k hk
    rw [flatA_get h.lt i k (by simpa using hi) hk, List.getElem_map]
    have : s.ths[i] = t := by rw [← ht]; simp [List.getD, hi]
    rw [this]
  refine ⟨h.th.cell _ (hg 0 (by omega)), h.th.cell _ (hg 1 (by omega)), h.th.cell _ (hg 2 (by omega)), h.th.cell _ (hg 3 (by omega)), h.th.cell _ (hg 4 (by omega)), h.th.cell _ (hg 5 (by omega)), h.th.cell _ (hg 6 (by omega)), h.th.cell _ (hg 7 (by omega)), h.th.cell _ (hg 8 (by omega)), h.th.cell _ (hg 9 (by omega)), h.th.cell _ (hg 10 (by omega)), h.th.cell _ (hg 11 (by omega)), h.th.cell _ (hg 12 (by omega))⟩
theorem CkAt.si (h : CkAt w c tb sb s ev) {i : Nat} (hi : i < s.sts.length) : w.cell? ⟨sb, i * 2, none⟩ = some (.int .i64 (s.own i)) ∧ w.cell? ⟨sb, i * 2 + 1, none⟩ = some (.int .i64 (s.ver i)) := by
  have hg : ∀ k, k < 2 → (flatA (s.sts.map stL))[i * 2 + k]? = (stL (s.sts.getD i (-1, 0)))[k]? := by
    intro k hk
    rw [flatA_get h.ls i k (by simpa using hi) hk, List.getElem_map]
    simp [List.getD, hi]
  exact ⟨h.st.cell _ (hg 0 (by omega)), h.st.cell _ (hg 1 (by omega))⟩

set_option maxRecDepth 100000 in
set_option maxHeartbeats 4000000 in
theorem free_any (h : CkAt w c tb sb s ev) (i : Nat) (hi : i < s.sts.length) : Calls Tryd.prog 79 #[.pointer (some ⟨c, 0, none⟩), .int .i64 (i : Int)] w fun e w' => e = .returned (.bool (s.own i == -1)) ∧ w = w' := by
  have c4 := h.cells.2.2.2.2
  have s0 := (h.si hi).1
  have g : (0 : Int) ≤ (i : Int) := by omega
  clear h
  go_enter Tryd.func79, Tryd.ntmps79
  go_wp2_with fail
  go_ret
  exact ⟨rfl, rfl⟩
set_option maxRecDepth 100000 in
set_option maxHeartbeats 4000000 in
theorem newer_any (h : CkAt w c tb sb s ev) (i : Nat) (hi : i < s.sts.length) {th : Nat} (ht : th < s.ths.length) {t : Th} (he : s.ths.getD th Th.zero = t) : Calls Tryd.prog 83 #[.pointer (some ⟨c, 0, none⟩), .int .i64 (i : Int), .pointer (some ⟨tb, th * 13, none⟩)] w fun e w' => e = .returned (.bool (decide (t.rv < s.ver i))) ∧ ∃ n, w' = w.drewN n := by
  have c4 := h.cells.2.2.2.2
  have s0 := (h.si hi).2
  have t2 := (h.t ht he).2.2.1
  have g : (0 : Int) ≤ (i : Int) := by omega
  have g2 : (i : Int) < (s.sts.length : Int) := by omega
  clear h
  go_enter Tryd.func83, Tryd.ntmps83
  go_wp2_with fail
  go_quiet (fail)
  go_wp2_with fail
  go_ret
  exact ⟨rfl, _, rfl⟩
end
end Go.Proofs.YtcddlnmcjmhbcaaDoor
