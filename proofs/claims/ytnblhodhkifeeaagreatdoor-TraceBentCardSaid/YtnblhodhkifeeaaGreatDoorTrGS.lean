/-
  Joined texts: ShC ShC2 ShC3 ShC4 ShC5 ShC6 ShC7 ShC8 ShC9 ShCa ShCb ShCd.
-/
import Derived.Test.YtnblhodhkifeeaaGreatDoorProg
import Derived.Test.YtnblhodhkifeeaaGreatDoorTrGK
import Derived.Test.YtnblhodhkifeeaaGreatDoorTrGP
import Derived.Deep.QuietTactic
import Derived.BigQuiet
import Derived.Deep.RegionHeld3
import Derived.Laws.BitsAll
import Derived.Shelf.Spec.TrailingZeros
import Derived.IntWalk
import Derived.Laws.ShiftsVarLaws
import Derived.Test.YtnblhodhkifeeaaGreatDoorTrGR
import Derived.Deep.DeepCutAuto
import Derived.Deep.CutBlock
import Derived.Deep.MidRow
/-
  The checker in memory; walks: what its methods call.
-/
namespace Go.Proofs.YtnblhodhkifeeaaGreatDoor
set_option linter.unusedVariables false
open Go Go.RowKit
def thL (t : Th) : List Value := [.int .i64 t.at_, .int .i64 t.commits, .int .i64 t.rv, .int .i64 t.wv, .int .i64 t.stripe, .int .i64 t.v, .int .u32 (t.read : Int), .int .u32 (t.owned : Int), .int .u32 (t.stored : Int), .int .u32 (t.check : Int), .int .i64 t.locked, .int .i64 t.var, .bool t.full]
def stL (p : Int × Int) : List Value := [.int .i64 p.1, .int .i64 p.2]
structure CkR (w : World) (c tb sb T n : Nat) (vars clock ev : Int) (R S : List (List Value)) : Prop where
  ck : Blk w c #[.int .i64 vars, .int .i64 clock, .int .i64 ev, .slice (some ⟨tb, 0, none⟩) T T, .slice (some ⟨sb, 0, none⟩) n n] 129
  th : Blk w tb (flatA R) 135
  st : Blk w sb (flatA S) 127
  ne : c ≠ tb ∧ c ≠ sb ∧ tb ≠ sb
  lt : ∀ r ∈ R, r.length = 13
  ls : ∀ r ∈ S, r.length = 2
  nt : R.length = T
  ns : S.length = n
def CkAt (w : World) (c tb sb : Nat) (s : Sh) (ev : Nat) : Prop := CkR w c tb sb s.ths.length s.sts.length s.vars s.clock ev (s.ths.map thL) (s.sts.map stL)
section
variable {w : World} {c tb sb T n : Nat} {vars clock ev : Int} {R S : List (List Value)}
theorem CkR.turn {w' : World} (h : CkR w c tb sb T n vars clock ev R S) {l : List Nat} (ht : Turn l w w') (h1 : c ∉ l) (h2 : tb ∉ l) (h3 : sb ∉ l) : CkR w' c tb sb T n vars clock ev R S :=
  ⟨ht.blk h1 h.ck, ht.blk h2 h.th, ht.blk h3 h.st, h.ne, h.lt, h.ls, h.nt, h.ns⟩
theorem CkR.below {w' : World} (h : CkR w c tb sb T n vars clock ev R S) (hb : Below w.heap.size w w') : CkR w' c tb sb T n vars clock ev R S :=
  ⟨h.ck.below hb, h.th.below hb, h.st.below hb, h.ne, h.lt, h.ls, h.nt, h.ns⟩
theorem CkR.drew (h : CkR w c tb sb T n vars clock ev R S) : CkR w.drew c tb sb T n vars clock ev R S := ⟨h.ck.drew, h.th.drew, h.st.drew, h.ne, h.lt, h.ls, h.nt, h.ns⟩
theorem CkR.drewN (h : CkR w c tb sb T n vars clock ev R S) (m : Nat) : CkR (w.drewN m) c tb sb T n vars clock ev R S := h.below (ext_drewN (ext_refl _) m)
theorem CkR.alloc (h : CkR w c tb sb T n vars clock ev R S) (o : Obj) : CkR (w.alloc o) c tb sb T n vars clock ev R S := h.below (ext_alloc (ext_refl _) o)
theorem CkR.set_t (h : CkR w c tb sb T n vars clock ev R S) {i k : Nat} (v : Value) (hi : i < T) (hk : k < 13) : CkR (w.setCell ⟨tb, i * 13 + k, none⟩ v) c tb sb T n vars clock ev (R.modify i (fun r => r.set k v)) S :=
  ⟨h.ck.set_other _ _ (by simpa using h.ne.1), by rw [← flatA_set h.lt i k v (by rw [h.nt]; exact hi) hk]; exact h.th.set _ _, h.st.set_other _ _ (by simpa using h.ne.2.2.symm), h.ne, modify_len h.lt _ _ (by simp), h.ls, by simp [h.nt], h.ns⟩
theorem CkR.set_t0 (h : CkR w c tb sb T n vars clock ev R S) {i : Nat} (v : Value) (hi : i < T) : CkR (w.setCell ⟨tb, i * 13, none⟩ v) c tb sb T n vars clock ev (R.modify i (fun r => r.set 0 v)) S := h.set_t (k := 0) v hi (by omega)
theorem CkR.set_s (h : CkR w c tb sb T n vars clock ev R S) {i k : Nat} (v : Value) (hi : i < n) (hk : k < 2) : CkR (w.setCell ⟨sb, i * 2 + k, none⟩ v) c tb sb T n vars clock ev R (S.modify i (fun r => r.set k v)) :=
  ⟨h.ck.set_other _ _ (by simpa using h.ne.2.1), h.th.set_other _ _ (by simpa using h.ne.2.2), by rw [← flatA_set h.ls i k v (by rw [h.ns]; exact hi) hk]; exact h.st.set _ _, h.ne, h.lt, modify_len h.ls _ _ (by simp), h.nt, by simp [h.ns]⟩
theorem CkR.set_s0 (h : CkR w c tb sb T n vars clock ev R S) {i : Nat} (v : Value) (hi : i < n) : CkR (w.setCell ⟨sb, i * 2, none⟩ v) c tb sb T n vars clock ev R (S.modify i (fun r => r.set 0 v)) := h.set_s (k := 0) v hi (by omega)
theorem CkR.set_clock (h : CkR w c tb sb T n vars clock ev R S) (x : Int) : CkR (w.setCell ⟨c, 1, none⟩ (.int .i64 x)) c tb sb T n vars x ev R S :=
  ⟨h.ck.set 1 _, h.th.set_other _ _ (by simpa using h.ne.1.symm), h.st.set_other _ _ (by simpa using h.ne.2.1.symm), h.ne, h.lt, h.ls, h.nt, h.ns⟩
theorem CkR.set_ev (h : CkR w c tb sb T n vars clock ev R S) (x : Int) : CkR (w.setCell ⟨c, 2, none⟩ (.int .i64 x)) c tb sb T n vars clock x R S :=
  ⟨h.ck.set 2 _, h.th.set_other _ _ (by simpa using h.ne.1.symm), h.st.set_other _ _ (by simpa using h.ne.2.1.symm), h.ne, h.lt, h.ls, h.nt, h.ns⟩
end
theorem map_modify {α : Type} (L : List α) (f : α → List Value) (i : Nat) (g : List Value → List Value) (x : α) (hi : i < L.length) (h : g (f L[i]) = f x) : (L.map f).modify i g = (L.set i x).map f := by
  rw [modify_is_set (L.map f) i g (by simpa using hi) (r := f x) (by simpa using h), List.map_set]
section
variable {w : World} {c tb sb : Nat} {s : Sh} {ev : Nat}
theorem CkAt.cells (h : CkAt w c tb sb s ev) : w.cell? ⟨c, 0, none⟩ = some (.int .i64 s.vars) ∧ w.cell? ⟨c, 1, none⟩ = some (.int .i64 s.clock) ∧ w.cell? ⟨c, 2, none⟩ = some (.int .i64 (ev : Int)) ∧ w.cell? ⟨c, 3, none⟩ = some (.slice (some ⟨tb, 0, none⟩) s.ths.length s.ths.length) ∧ w.cell? ⟨c, 4, none⟩ = some (.slice (some ⟨sb, 0, none⟩) s.sts.length s.sts.length) := by
  refine ⟨h.ck.cell 0 rfl, h.ck.cell 1 rfl, h.ck.cell 2 rfl, ?_, ?_⟩
  · exact h.ck.cell 3 rfl
  · exact h.ck.cell 4 rfl
theorem CkAt.t (h : CkAt w c tb sb s ev) {i : Nat} (hi : i < s.ths.length) {t : Th} (ht : s.ths.getD i Th.zero = t) :
    w.cell? ⟨tb, i * 13, none⟩ = some (.int .i64 t.at_) ∧ w.cell? ⟨tb, i * 13 + 1, none⟩ = some (.int .i64 t.commits) ∧ w.cell? ⟨tb, i * 13 + 2, none⟩ = some (.int .i64 t.rv) ∧ w.cell? ⟨tb, i * 13 + 3, none⟩ = some (.int .i64 t.wv) ∧ w.cell? ⟨tb, i * 13 + 4, none⟩ = some (.int .i64 t.stripe) ∧ w.cell? ⟨tb, i * 13 + 5, none⟩ = some (.int .i64 t.v) ∧
      w.cell? ⟨tb, i * 13 + 6, none⟩ = some (.int .u32 (t.read : Int)) ∧ w.cell? ⟨tb, i * 13 + 7, none⟩ = some (.int .u32 (t.owned : Int)) ∧ w.cell? ⟨tb, i * 13 + 8, none⟩ = some (.int .u32 (t.stored : Int)) ∧ w.cell? ⟨tb, i * 13 + 9, none⟩ = some (.int .u32 (t.check : Int)) ∧ w.cell? ⟨tb, i * 13 + 10, none⟩ = some (.int .i64 t.locked) ∧ w.cell? ⟨tb, i * 13 + 11, none⟩ = some (.int .i64 t.var) ∧ w.cell? ⟨tb, i * 13 + 12, none⟩ = some (.bool t.full) := by
  have hg : ∀ k, k < 13 → (flatA (s.ths.map thL))[i * 13 + k]? = (thL t)[k]? := by
    intro k hk
    rw [flatA_get h.lt i k (by simpa using hi) hk, List.getElem_map]
    have : s.ths[i] = t := by rw [← ht]; simp [List.getD, hi]
    rw [this]
  refine ⟨h.th.cell _ (hg 0 (by omega)), h.th.cell _ (hg 1 (by omega)), h.th.cell _ (hg 2 (by omega)), h.th.cell _ (hg 3 (by omega)), h.th.cell _ (hg 4 (by omega)), h.th.cell _ (hg 5 (by omega)), h.th.cell _ (hg 6 (by omega)), h.th.cell _ (hg 7 (by omega)), h.th.cell _ (hg 8 (by omega)), h.th.cell _ (hg 9 (by omega)), h.th.cell _ (hg 10 (by omega)), h.th.cell _ (hg 11 (by omega)), h.th.cell _ (hg 12 (by omega))⟩
theorem CkAt.si (h : CkAt w c tb sb s ev) {i : Nat} (hi : i < s.sts.length) : w.cell? ⟨sb, i * 2, none⟩ = some (.int .i64 (s.own i)) ∧ w.cell? ⟨sb, i * 2 + 1, none⟩ = some (.int .i64 (s.ver i)) := by
  have hg : ∀ k, k < 2 → (flatA (s.sts.map stL))[i * 2 + k]? = (stL (s.sts.getD i (-1, 0)))[k]? := by
    intro k hk
    rw [flatA_get h.ls i k (by simpa using hi) hk, List.getElem_map]
    simp [List.getD, hi]
  exact ⟨h.st.cell _ (hg 0 (by omega)), h.st.cell _ (hg 1 (by omega))⟩
set_option maxRecDepth 100000 in
set_option maxHeartbeats 4000000 in
theorem free_any (h : CkAt w c tb sb s ev) (i : Nat) (hi : i < s.sts.length) : Calls Tryz.prog 131 #[.pointer (some ⟨c, 0, none⟩), .int .i64 (i : Int)] w fun e w' => e = .returned (.bool (s.own i == -1)) ∧ w = w' := by
  have c4 := h.cells.2.2.2.2
  have s0 := (h.si hi).1
  have g : (0 : Int) ≤ (i : Int) := by omega
  clear h
  go_enter Tryz.func131, Tryz.ntmps131
  go_wp2_with fail
  go_ret
  exact ⟨rfl, rfl⟩
set_option maxRecDepth 100000 in
set_option maxHeartbeats 4000000 in
theorem newer_any (h : CkAt w c tb sb s ev) (i : Nat) (hi : i < s.sts.length) {th : Nat} (ht : th < s.ths.length) {t : Th} (he : s.ths.getD th Th.zero = t) : Calls Tryz.prog 135 #[.pointer (some ⟨c, 0, none⟩), .int .i64 (i : Int), .pointer (some ⟨tb, th * 13, none⟩)] w fun e w' => e = .returned (.bool (decide (t.rv < s.ver i))) ∧ ∃ n, w' = w.drewN n := by
  have c4 := h.cells.2.2.2.2
  have s0 := (h.si hi).2
  have t2 := (h.t ht he).2.2.1
  have g : (0 : Int) ≤ (i : Int) := by omega
  have g2 : (i : Int) < (s.sts.length : Int) := by omega
  clear h
  go_enter Tryz.func135, Tryz.ntmps135
  go_wp2_with fail
  go_quiet (fail)
  go_wp2_with fail
  go_ret
  exact ⟨rfl, _, rfl⟩
end
end Go.Proofs.YtnblhodhkifeeaaGreatDoor
/-
  The checker; walks: the least bit, and the smaller methods.
-/
namespace Go.Proofs.YtnblhodhkifeeaaGreatDoor
set_option linter.unusedVariables false
open Go Go.RowKit
theorem ctz_least {m : Nat} (hm : m < 4294967296) (h0 : m ≠ 0) : Lib.ctz 32 m = leastb m := by
  obtain ⟨q, hq, hk⟩ := Lib.ctzFrom_spec 32 m (by omega) hm
  have e : Lib.ctz 32 m = Lib.ctzFrom 32 m := by simp [Lib.ctz, h0]
  rw [e]
  generalize Lib.ctzFrom 32 m = k at hq hk
  have hb : ∀ i, m.testBit i = (decide (k ≤ i) && (2 * q + 1).testBit (i - k)) := by
    intro i; rw [hq, Nat.mul_comm, Nat.testBit_mul_two_pow]
  have h1 : m.testBit k = true := by rw [hb]; simp [Nat.testBit_zero]
  have h2 := leastb_min h1 hk
  have h3 : leastb m < 32 := by omega
  have h4 := leastb_some h3
  rw [hb, Bool.and_eq_true, decide_eq_true_eq] at h4
  omega
theorem leastb_zero : leastb 0 = 32 := by decide
def TabOk (w : World) : Prop := ∀ i, i < 32 → w.cell? ⟨2, i, none⟩ = some (.int .u8 ((Lib.deBruijn32tab.getD i 0 : Nat) : Int))
theorem TabOk.below {w w' : World} (hb : Below w.heap.size w w') (h : TabOk w) : TabOk w' := fun i hi => later hb (h i hi)
theorem TabOk.turn {w w' : World} {l : List Nat} (ht : Turn l w w') (hn : 2 ∉ l) (h : TabOk w) : TabOk w' := fun i hi => ht.cell hn (h i hi)
set_option maxRecDepth 100000 in
set_option maxHeartbeats 4000000 in
theorem tz_zero (w : World) : Calls Tryz.prog 151 #[.int .u32 0] w fun e w' => e = .returned (.int .i64 32) ∧ w = w' := by
  go_enter Tryz.func151, Tryz.ntmps151
  go_wp2_with fail
  go_ret
  exact ⟨rfl, rfl⟩
set_option maxRecDepth 100000 in
set_option maxHeartbeats 4000000 in
theorem tz_core (x k idx : Nat) (w : World) (hx0 : ((x : Int) == 0) = false)
    (key : bits BinOp.and IntKind.u32 (x : Int) (-(x : Int) % 4294967296) * 125613361 % 4294967296 / 134217728 = (idx : Int))
    (hi : idx < 32) (hk : k < 32) (hcell : w.cell? ⟨2, idx, none⟩ = some (.int .u8 (k : Int))) :
    Calls Tryz.prog 151 #[.int .u32 (x : Int)] w fun e w' => e = .returned (.int .i64 (k : Int)) ∧ w = w' := by
  go_enter Tryz.func151, Tryz.ntmps151
  go_wp2_with (simp only [key])
  go_ret
  exact ⟨rfl, rfl⟩
theorem tz_any (x : Nat) (hx : x < 4294967296) (w : World) (hT : TabOk w) : Calls Tryz.prog 151 #[.int .u32 (x : Int)] w fun e w' => e = .returned (.int .i64 (leastb x : Int)) ∧ w = w' := by
  by_cases hx0 : x = 0
  · subst hx0; rw [leastb_zero]; exact tz_zero w
  · obtain ⟨hlow, hk⟩ := Lib.lowest_bit 32 x hx0 hx
    rw [ctz_least hx hx0] at hlow hk
    obtain ⟨hi, htab⟩ := Lib.deBruijn32_at _ hk
    have hcell := hT _ hi
    rw [htab] at hcell
    exact tz_core x _ _ w (by simp; omega) (tz32_key x _ hx hx0 hlow) hi hk hcell
set_option maxRecDepth 100000 in
set_option maxHeartbeats 4000000 in
theorem least_any (x : Nat) (hx : x < 4294967296) (w : World) (hT : TabOk w) : Calls Tryz.prog 133 #[.int .u32 (x : Int)] w fun e w' => e = .returned (.int .i64 (leastb x : Int)) ∧ w = w' := by
  have H := hid (tz_any x hx w hT)
  clear hT
  go_enter Tryz.func133, Tryz.ntmps133
  go_wp2_with fail
  refine H.out.mono ?_
  rintro e w' ⟨rfl, rfl⟩
  go_wp2_with fail
  go_ret
  exact ⟨rfl, rfl⟩
section
variable {w : World} {c tb sb : Nat} {s : Sh} {ev : Nat}
set_option maxRecDepth 100000 in
set_option maxHeartbeats 4000000 in
theorem others_any (h : CkAt w c tb sb s ev) (i : Nat) (hi : i < s.sts.length) (kind th tx at_ v x why : Int) : Calls Tryz.prog 134 #[.pointer (some ⟨c, 0, none⟩), .int .i64 (i : Int), .agg #[.int .u8 kind, .int .i64 th, .int .i64 tx, .int .i64 at_, .int .i64 v, .int .i64 x, .int .u8 why]] w
    fun e w' => e = .returned (.bool (s.oth i th)) ∧ Below w.heap.size w w' := by
  have hA := h.alloc (.cells #[.int .u8 kind, .int .i64 th, .int .i64 tx, .int .i64 at_, .int .i64 v, .int .i64 x, .int .u8 why] 50)
  have c4 := h.cells.2.2.2.2
  have s0 := (h.si hi).1
  have HF : Hid (∀ n, Calls Tryz.prog 131 #[.pointer (some ⟨c, 0, none⟩), .int .i64 (i : Int)] ((w.alloc (.cells #[.int .u8 kind, .int .i64 th, .int .i64 tx, .int .i64 at_, .int .i64 v, .int .i64 x, .int .u8 why] 50)).drewN n) fun e w' => e = .returned (.bool (s.own i == -1)) ∧ w' = (w.alloc (.cells #[.int .u8 kind, .int .i64 th, .int .i64 tx, .int .i64 at_, .int .i64 v, .int .i64 x, .int .u8 why] 50)).drewN n) :=
    hid fun n => (free_any (s := s) (ev := ev) (hA.drewN n) i hi).mono fun e w' ⟨h1, h2⟩ => ⟨h1, h2.symm⟩
  have g : (0 : Int) ≤ (i : Int) := by omega
  have g2 : (i : Int) < (s.sts.length : Int) := by omega
  have c4' := cell_alloc (x := .cells #[.int .u8 kind, .int .i64 th, .int .i64 tx, .int .i64 at_, .int .i64 v, .int .i64 x, .int .u8 why] 50) c4
  have s0' := cell_alloc (x := .cells #[.int .u8 kind, .int .i64 th, .int .i64 tx, .int .i64 at_, .int .i64 v, .int .i64 x, .int .u8 why] 50) s0
  clear h hA c4 s0
  by_cases hf : s.own i = -1
  · have k1 : (s.own (i : Int) == -1) = true := by rw [beq_iff_eq]; exact hf
    have k2 : (s.own (i : Int) != -1) = false := by unfold bne; rw [k1]; rfl
    have HR : Hid (s.oth (i : Int) th = false) := hid (by unfold Sh.oth; simp [hf])
    clear hf
    go_enter Tryz.func134, Tryz.ntmps134
    go_wp2_with fail
    go_quiet ((go_at_call 131; exact Calls.quiet_of_same (HF.out _)))
    go_wp2_with fail
    go_ret
    exact ⟨by rw [HR.out]; rfl, ext_drewN (by repeat (first | assumption | exact ext_refl _ | refine ext_drew ?_ | refine ext_alloc ?_ _ | refine ext_trans ?_ (by assumption))) _⟩
  · have k1 : (s.own (i : Int) == -1) = false := by rw [beq_eq_false_iff_ne]; exact hf
    have k2 : (s.own (i : Int) != -1) = true := by unfold bne; rw [k1]; rfl
    have HR : Hid (s.oth (i : Int) th = (s.own (i : Int) != th)) := hid (by unfold Sh.oth; simp [hf, bne]; rfl)
    clear hf
    go_enter Tryz.func134, Tryz.ntmps134
    go_wp2_with fail
    go_quiet ((go_at_call 131; exact Calls.quiet_of_same (HF.out _)))
    go_wp2_with fail
    go_ret
    exact ⟨by rw [HR.out]; rfl, ext_drewN (by repeat (first | assumption | exact ext_refl _ | refine ext_drew ?_ | refine ext_alloc ?_ _ | refine ext_trans ?_ (by assumption))) _⟩
set_option maxRecDepth 100000 in
set_option maxHeartbeats 4000000 in
theorem still_any (h : CkAt w c tb sb s ev) {th : Nat} (hth : th < s.ths.length) {t : Th} (he : s.ths.getD th Th.zero = t) {i : Nat} (hti : t.stripe = (i : Int)) (hi : i < s.sts.length) : Calls Tryz.prog 132 #[.pointer (some ⟨c, 0, none⟩), .pointer (some ⟨tb, th * 13, none⟩)] w
    fun e w' => e = .returned (.bool (decide (s.own t.stripe = -1 ∧ s.ver t.stripe = t.v))) ∧ ∃ n, w' = w.drewN n := by
  have c4 := h.cells.2.2.2.2
  have s1 := (h.si hi).2
  have t4 := (h.t hth he).2.2.2.2.1
  have t5 := (h.t hth he).2.2.2.2.2.1
  rw [hti] at t4 ⊢
  have g : (0 : Int) ≤ (i : Int) := by omega
  have g2 : (i : Int) < (s.sts.length : Int) := by omega
  clear hti he
  by_cases hf : s.own i = -1
  · have k1 : (s.own (i : Int) == -1) = true := by rw [beq_iff_eq]; exact hf
    have k2 : (s.own (i : Int) != -1) = false := by unfold bne; rw [k1]; rfl
    have HR : Hid (decide (s.own (i : Int) = -1 ∧ s.ver (i : Int) = t.v) = (s.ver (i : Int) == t.v)) := hid (by simp [hf]; rfl)
    have HF : Hid (∀ n, Calls Tryz.prog 131 #[.pointer (some ⟨c, 0, none⟩), .int .i64 (i : Int)] (w.drewN n) fun e w' => e = .returned (.bool true) ∧ w' = w.drewN n) :=
      hid fun n => (free_any (s := s) (ev := ev) (h.drewN n) i hi).mono fun e w' ⟨h1, h2⟩ => ⟨by rw [h1, k1], h2.symm⟩
    clear hf h k1 k2
    go_enter Tryz.func132, Tryz.ntmps132
    go_wp2_with fail
    go_quiet ((go_at_call 131; exact Calls.quiet_of_same (HF.out _)))
    go_wp2_with fail
    go_ret
    exact ⟨by rw [HR.out]; rfl, _, rfl⟩
  · have k1 : (s.own (i : Int) == -1) = false := by rw [beq_eq_false_iff_ne]; exact hf
    have k2 : (s.own (i : Int) != -1) = true := by unfold bne; rw [k1]; rfl
    have HR : Hid (decide (s.own (i : Int) = -1 ∧ s.ver (i : Int) = t.v) = false) := hid (by simp [hf])
    have HF : Hid (∀ n, Calls Tryz.prog 131 #[.pointer (some ⟨c, 0, none⟩), .int .i64 (i : Int)] (w.drewN n) fun e w' => e = .returned (.bool false) ∧ w' = w.drewN n) :=
      hid fun n => (free_any (s := s) (ev := ev) (h.drewN n) i hi).mono fun e w' ⟨h1, h2⟩ => ⟨by rw [h1, k1], h2.symm⟩
    clear hf h k1 k2
    go_enter Tryz.func132, Tryz.ntmps132
    go_wp2_with fail
    go_quiet ((go_at_call 131; exact Calls.quiet_of_same (HF.out _)))
    go_wp2_with fail
    go_ret
    exact ⟨by rw [HR.out]; rfl, _, rfl⟩
end
end Go.Proofs.YtnblhodhkifeeaaGreatDoor
/-
  The checker; walks: Begin, Wait.
-/
namespace Go.Proofs.YtnblhodhkifeeaaGreatDoor
set_option linter.unusedVariables false
open Go Go.RowKit
theorem pow_cast (a : Nat) (ha : a < 32) : ((2 : Int) ^ a % 4294967296) = ((2 ^ a : Nat) : Int) := by
  have h2 : (2 : Nat) ^ a < 4294967296 := Nat.pow_lt_pow_right (a := 2) (n := 32) (by decide) ha
  rw [show ((2 : Int) ^ a) = ((2 ^ a : Nat) : Int) from (Int.natCast_pow 2 a).symm]
  generalize (2 : Nat) ^ a = p at *
  omega
theorem or_bit (m a : Nat) (hm : m < 4294967296) (ha : a < 32) : bits .or .u32 (m : Int) (2 ^ a % 4294967296) = ((setb m a : Nat) : Int) := by
  rw [pow_cast a ha, u32_or_nat m (2 ^ a) hm (Nat.pow_lt_pow_right (a := 2) (n := 32) (by decide) ha)]; rfl
theorem clr_bit (m a : Nat) (hm : m < 4294967296) (ha : a < 32) : bits .andNot .u32 (m : Int) (2 ^ a % 4294967296) = ((clrb m a : Nat) : Int) := by
  have h2 : (2 : Nat) ^ a < 4294967296 := Nat.pow_lt_pow_right (a := 2) (n := 32) (by decide) ha
  rw [pow_cast a ha, u32_andNot_nat m (2 ^ a) hm h2]
  congr 1
  apply Nat.eq_of_testBit_eq
  intro i
  have e : 4294967295 - 2 ^ a = 2 ^ 32 - (2 ^ a + 1) := by omega
  rw [testBit_clrb, Nat.testBit_and, e, Nat.testBit_two_pow_sub_succ h2, Nat.testBit_two_pow]
  by_cases hi : i < 32
  · simp [hi]
  · rw [Nat.testBit_lt_two_pow (Nat.lt_of_lt_of_le (show m < 2 ^ 32 from hm) (Nat.pow_le_pow_right (by omega) (by omega)))]
    simp
def StepP (w : World) (c tb sb : Nat) (s : Sh) (ev : Nat) (r : Option Sh) (e : Ending) (w' : World) : Prop :=
  e = .returned (.bool r.isSome) ∧ CkAt w' c tb sb (r.getD s) ev ∧ Turn [c, tb, sb] w w'
theorem get_of_getD {α : Type} {l : List α} {i : Nat} {d t : α} (hi : i < l.length) (he : l.getD i d = t) : l[i]? = some t := by
  rw [← he]; simp only [List.getD, List.getElem?_eq_getElem hi, Option.getD_some]
theorem map_modify' {α : Type} (L : List α) (f : α → List Value) (i : Nat) (g : List Value → List Value) (x t : α) (hi : L[i]? = some t) (h : g (f t) = f x) : (L.map f).modify i g = (L.set i x).map f := by
  obtain ⟨h1, h2⟩ := List.getElem?_eq_some_iff.1 hi
  exact map_modify L f i g x h1 (by rw [h2]; exact h)
theorem stepP_no {w w' : World} {c tb sb : Nat} {s : Sh} {ev : Nat} {r : Option Sh} {e : Ending} (hr : r = none) (h : CkAt w c tb sb s ev) (he : e = .returned (.bool false)) (hb : Below w.heap.size w w') : StepP w c tb sb s ev r e w' := by
  subst hr
  exact ⟨he, h.below hb, Turn.of_below hb⟩
theorem stepP_yes {w w' : World} {c tb sb : Nat} {s s' : Sh} {ev : Nat} {r : Option Sh} {e : Ending} {vars clock : Int} {R S : List (List Value)} (hr : r = some s') (he : e = .returned (.bool true))
    (hk : CkR w' c tb sb s.ths.length s.sts.length vars clock ev R S) (h1 : vars = s'.vars ∧ clock = s'.clock) (h2 : R = s'.ths.map thL) (h3 : S = s'.sts.map stL) (ht : Turn [c, tb, sb] w w') : StepP w c tb sb s ev r e w' := by
  subst hr
  obtain ⟨rfl, rfl⟩ := h1
  subst h2; subst h3
  refine ⟨he, ?_, ht⟩
  have e1 : s.ths.length = s'.ths.length := by have := hk.nt; simpa using this.symm
  have e2 : s.sts.length = s'.sts.length := by have := hk.ns; simpa using this.symm
  rw [e1, e2] at hk
  exact hk
section
variable {w : World} {c tb sb : Nat} {s : Sh} {ev : Nat}
set_option maxRecDepth 100000 in
set_option maxHeartbeats 4000000 in
theorem begin_any (h : CkAt w c tb sb s ev) (i : Nat) (hi : i < s.ths.length) {t : Th} (he : s.ths.getD i Th.zero = t) (kind tx at_ v x why : Int) :
    Calls Tryz.prog 74 #[.pointer (some ⟨c, 0, none⟩), .pointer (some ⟨tb, i * 13, none⟩), .agg #[.int .u8 kind, .int .i64 (i : Int), .int .i64 tx, .int .i64 at_, .int .i64 v, .int .i64 x, .int .u8 why]] w
      (StepP w c tb sb s ev (beginS s t ⟨kind, i, tx, at_, v, x, why⟩)) := by
  obtain ⟨c0, c1, c2, c3, c4⟩ := h.cells
  obtain ⟨t0, t1, t2, t3, t4, t5, t6, t7, t8, t9, t10, t11, t12⟩ := h.t hi he
  have f1 : w.frozen? ⟨c, 1, none⟩ = false := h.ck.free 1
  have ft0 : w.frozen? ⟨tb, i * 13, none⟩ = false := h.th.free _
  have ft1 : w.frozen? ⟨tb, i * 13 + 1, none⟩ = false := h.th.free _
  have ft2 : w.frozen? ⟨tb, i * 13 + 2, none⟩ = false := h.th.free _
  have ft3 : w.frozen? ⟨tb, i * 13 + 3, none⟩ = false := h.th.free _
  have ft4 : w.frozen? ⟨tb, i * 13 + 4, none⟩ = false := h.th.free _
  have ft5 : w.frozen? ⟨tb, i * 13 + 5, none⟩ = false := h.th.free _
  have ft6 : w.frozen? ⟨tb, i * 13 + 6, none⟩ = false := h.th.free _
  have ft7 : w.frozen? ⟨tb, i * 13 + 7, none⟩ = false := h.th.free _
  have ft8 : w.frozen? ⟨tb, i * 13 + 8, none⟩ = false := h.th.free _
  have ft9 : w.frozen? ⟨tb, i * 13 + 9, none⟩ = false := h.th.free _
  have ft10 : w.frozen? ⟨tb, i * 13 + 10, none⟩ = false := h.th.free _
  have ft11 : w.frozen? ⟨tb, i * 13 + 11, none⟩ = false := h.th.free _
  have ft12 : w.frozen? ⟨tb, i * 13 + 12, none⟩ = false := h.th.free _
  have hcl := lt_of_cell c0
  have htl := lt_of_cell t0
  have HH := hid h
  have HK : Hid (CkR w c tb sb s.ths.length s.sts.length s.vars s.clock ev (s.ths.map thL) (s.sts.map stL)) := hid h
  have HE := hid he
  have HI := hid hi
  have hne := h.ne
  have HG : Hid (s.ths[i]? = some t) := hid (get_of_getD hi he)
  have hc : (t.at_ != 0) = true ∨ ((t.at_ != 0) = false ∧ (tx != t.commits) = true) ∨ ((t.at_ != 0) = false ∧ (tx != t.commits) = false ∧ v < s.clock) ∨ ((t.at_ != 0) = false ∧ (tx != t.commits) = false ∧ decide (v < s.clock) = false) := by
    by_cases h1 : t.at_ = 0 <;> by_cases h2 : tx = t.commits <;> by_cases h3 : v < s.clock <;> simp [h1, h2, h3]
  clear h he hi
  rcases hc with k1 | ⟨k1, k2⟩ | ⟨k1, k2, k3⟩ | ⟨k1, k2, k3⟩
  · have HR : Hid (beginS s t ⟨kind, i, tx, at_, v, x, why⟩ = none) := hid (by unfold beginS; rw [if_neg]; simp at k1; simp [k1])
    go_enter Tryz.func74, Tryz.ntmps74
    go_wp2_with fail
    go_quiet (fail)
    go_wp2_with fail
    go_ret
    exact stepP_no HR.out HH.out rfl (ext_drewN (by repeat (first | assumption | exact ext_refl _ | refine ext_drew ?_ | refine ext_alloc ?_ _ | refine ext_trans ?_ (by assumption))) _)
  · have HR : Hid (beginS s t ⟨kind, i, tx, at_, v, x, why⟩ = none) := hid (by unfold beginS; rw [if_neg]; simp at k2; simp [k2])
    go_enter Tryz.func74, Tryz.ntmps74
    go_wp2_with fail
    go_quiet (fail)
    go_wp2_with fail
    go_ret
    exact stepP_no HR.out HH.out rfl (ext_drewN (by repeat (first | assumption | exact ext_refl _ | refine ext_drew ?_ | refine ext_alloc ?_ _ | refine ext_trans ?_ (by assumption))) _)
  · have HR : Hid (beginS s t ⟨kind, i, tx, at_, v, x, why⟩ = none) := hid (by unfold beginS; rw [if_neg]; simp; omega)
    go_enter Tryz.func74, Tryz.ntmps74
    go_wp2_with fail
    go_quiet (fail)
    go_wp2_with fail
    go_ret
    exact stepP_no HR.out HH.out rfl (ext_drewN (by repeat (first | assumption | exact ext_refl _ | refine ext_drew ?_ | refine ext_alloc ?_ _ | refine ext_trans ?_ (by assumption))) _)
  · have HR := hid (show beginS s t ⟨kind, i, tx, at_, v, x, why⟩ = _ from if_pos ⟨by simpa using k1, by simpa using k2, by simpa using k3⟩)
    go_enter Tryz.func74, Tryz.ntmps74
    go_wp2_with fail
    go_quiet (fail)
    go_wp2_with fail
    go_region
    all_goals (
      go_wp2_with fail
      go_ret
      (apply stepP_yes HR.out rfl; (focus (repeat (first | (with_reducible exact HK.out) | (with_reducible apply CkR.drew) | (with_reducible apply CkR.alloc) | (with_reducible apply CkR.drewN) | (with_reducible apply CkR.set_t0; any_goals (exact HI.out)) | (with_reducible apply CkR.set_t; any_goals (first | (exact HI.out) | decide)) | (with_reducible apply CkR.set_s0; any_goals (exact HA.out)) | (with_reducible apply CkR.set_s; any_goals (first | (exact HA.out) | decide)) | (with_reducible apply CkR.set_clock)))); (exact ⟨rfl, rfl⟩); ((try simp only [modify_modify]); exact map_modify' _ _ _ _ _ _ HG.out rfl); rfl; (repeat (first | (with_reducible exact HT1.out) | (with_reducible exact Turn.refl _ _) | (with_reducible refine Turn.drew ?_) | (with_reducible refine Turn.alloc ?_ _) | (with_reducible refine Turn.drewN ?_ _) | (with_reducible refine Turn.setCell ?_ (Or.inl (by simp)) _)))))
end
end Go.Proofs.YtnblhodhkifeeaaGreatDoor
/-
  The checker; walks: Look, Lock, Bump.
-/
namespace Go.Proofs.YtnblhodhkifeeaaGreatDoor
set_option linter.unusedVariables false
open Go Go.RowKit
section
variable {w : World} {c tb sb : Nat} {s : Sh} {ev : Nat}
set_option maxRecDepth 100000 in
set_option maxHeartbeats 4000000 in
theorem look_any (h : CkAt w c tb sb s ev) (i : Nat) (hi : i < s.ths.length) {t : Th} (he : s.ths.getD i Th.zero = t) (a : Nat) (ha : a < s.sts.length) (kind tx v x why : Int) :
    Calls Tryz.prog 75 #[.pointer (some ⟨c, 0, none⟩), .pointer (some ⟨tb, i * 13, none⟩), .agg #[.int .u8 kind, .int .i64 (i : Int), .int .i64 tx, .int .i64 (a : Int), .int .i64 v, .int .i64 x, .int .u8 why]] w
      (StepP w c tb sb s ev (lookS s t ⟨kind, i, tx, a, v, x, why⟩)) := by
  obtain ⟨c0, c1, c2, c3, c4⟩ := h.cells
  obtain ⟨t0, t1, t2, t3, t4, t5, t6, t7, t8, t9, t10, t11, t12⟩ := h.t hi he
  have f1 : w.frozen? ⟨c, 1, none⟩ = false := h.ck.free 1
  have ft0 : w.frozen? ⟨tb, i * 13, none⟩ = false := h.th.free _
  have ft3 : w.frozen? ⟨tb, i * 13 + 3, none⟩ = false := h.th.free _
  have ft4 : w.frozen? ⟨tb, i * 13 + 4, none⟩ = false := h.th.free _
  have ft5 : w.frozen? ⟨tb, i * 13 + 5, none⟩ = false := h.th.free _
  have ft6 : w.frozen? ⟨tb, i * 13 + 6, none⟩ = false := h.th.free _
  have ft7 : w.frozen? ⟨tb, i * 13 + 7, none⟩ = false := h.th.free _
  have ft8 : w.frozen? ⟨tb, i * 13 + 8, none⟩ = false := h.th.free _
  have ft9 : w.frozen? ⟨tb, i * 13 + 9, none⟩ = false := h.th.free _
  have ft10 : w.frozen? ⟨tb, i * 13 + 10, none⟩ = false := h.th.free _
  have ft11 : w.frozen? ⟨tb, i * 13 + 11, none⟩ = false := h.th.free _
  have ft12 : w.frozen? ⟨tb, i * 13 + 12, none⟩ = false := h.th.free _
  have hcl := lt_of_cell c0
  have htl := lt_of_cell t0
  have HH := hid h
  have HK : Hid (CkR w c tb sb s.ths.length s.sts.length s.vars s.clock ev (s.ths.map thL) (s.sts.map stL)) := hid h
  have HI := hid hi
  have hne := h.ne
  have HG : Hid (s.ths[i]? = some t) := hid (get_of_getD hi he)
  have HE := hid he
  have s0 := (h.si ha).1
  have s1 := (h.si ha).2
  have fs0 : w.frozen? ⟨sb, a * 2, none⟩ = false := h.st.free _
  have fs1 : w.frozen? ⟨sb, a * 2 + 1, none⟩ = false := h.st.free _
  have ga0 : (0 : Int) ≤ (a : Int) := by omega
  have ga1 : (a : Int) < (s.sts.length : Int) := by omega
  have hsl := lt_of_cell s0
  have HA := hid ha
  have HQ : Hid (s.sts[a]? = some (s.own a, s.ver a)) := hid (get_of_getD ha rfl)
  have HF : Hid (∀ n, Calls Tryz.prog 131 #[.pointer (some ⟨c, 0, none⟩), .int .i64 (a : Int)] ((w.alloc (.cells #[.int .u8 kind, .int .i64 (i : Int), .int .i64 tx, .int .i64 (a : Int), .int .i64 v, .int .i64 x, .int .u8 why] 50)).drewN n) fun e w' => e = .returned (.bool (s.own a == -1)) ∧ w' = (w.alloc (.cells #[.int .u8 kind, .int .i64 (i : Int), .int .i64 tx, .int .i64 (a : Int), .int .i64 v, .int .i64 x, .int .u8 why] 50)).drewN n) :=
    hid fun n => (free_any (s := s) (ev := ev) ((h.alloc _).drewN n) a ha).mono fun e w' ⟨h1, h2⟩ => ⟨h1, h2.symm⟩
  clear h he hi ha
  by_cases p1 : t.at_ = 1
  case neg =>
    have k1 : (t.at_ != 1) = true := by simpa using p1
    have HR := hid (show lookS s t ⟨kind, i, tx, a, v, x, why⟩ = none from if_neg (by dsimp only; omega))
    clear p1
    (go_enter Tryz.func75, Tryz.ntmps75; go_wp2_with fail; go_quiet (fail); go_wp2_with fail; go_ret; exact stepP_no HR.out HH.out rfl (ext_drewN (by repeat (first | assumption | exact ext_refl _ | refine ext_drew ?_ | refine ext_alloc ?_ _ | refine ext_trans ?_ (by assumption))) _))
  have k1 : (t.at_ != 1) = false := by simpa using p1
  by_cases p2 : s.own a = -1
  case neg =>
    have HF2 : Hid (∀ n, Calls Tryz.prog 131 #[.pointer (some ⟨c, 0, none⟩), .int .i64 (a : Int)] ((w.alloc (.cells #[.int .u8 kind, .int .i64 (i : Int), .int .i64 tx, .int .i64 (a : Int), .int .i64 v, .int .i64 x, .int .u8 why] 50)).drewN n) fun e w' => e = .returned (.bool false) ∧ w' = (w.alloc (.cells #[.int .u8 kind, .int .i64 (i : Int), .int .i64 tx, .int .i64 (a : Int), .int .i64 v, .int .i64 x, .int .u8 why] 50)).drewN n) :=
      hid fun n => (HF.out n).mono fun e w' ⟨h1, h2⟩ => ⟨by rw [h1, beq_eq_false_iff_ne.2 p2], h2⟩
    have HR := hid (show lookS s t ⟨kind, i, tx, a, v, x, why⟩ = none from if_neg (by dsimp only; omega))
    clear p1 p2
    (go_enter Tryz.func75, Tryz.ntmps75; go_wp2_with fail; go_quiet ((go_at_call 131; exact Calls.quiet_of_same (HF2.out _))); go_wp2_with fail; go_ret; exact stepP_no HR.out HH.out rfl (ext_drewN (by repeat (first | assumption | exact ext_refl _ | refine ext_drew ?_ | refine ext_alloc ?_ _ | refine ext_trans ?_ (by assumption))) _))
  have HF2 : Hid (∀ n, Calls Tryz.prog 131 #[.pointer (some ⟨c, 0, none⟩), .int .i64 (a : Int)] ((w.alloc (.cells #[.int .u8 kind, .int .i64 (i : Int), .int .i64 tx, .int .i64 (a : Int), .int .i64 v, .int .i64 x, .int .u8 why] 50)).drewN n) fun e w' => e = .returned (.bool true) ∧ w' = (w.alloc (.cells #[.int .u8 kind, .int .i64 (i : Int), .int .i64 tx, .int .i64 (a : Int), .int .i64 v, .int .i64 x, .int .u8 why] 50)).drewN n) :=
    hid fun n => (HF.out n).mono fun e w' ⟨h1, h2⟩ => ⟨by rw [h1, beq_iff_eq.2 p2], h2⟩
  by_cases p3 : v < s.ver a
  case pos =>
    have HR := hid (show lookS s t ⟨kind, i, tx, a, v, x, why⟩ = none from if_neg (by dsimp only; omega))
    clear p1 p2
    (go_enter Tryz.func75, Tryz.ntmps75; go_wp2_with fail; go_quiet ((go_at_call 131; exact Calls.quiet_of_same (HF2.out _))); go_wp2_with fail; go_ret; exact stepP_no HR.out HH.out rfl (ext_drewN (by repeat (first | assumption | exact ext_refl _ | refine ext_drew ?_ | refine ext_alloc ?_ _ | refine ext_trans ?_ (by assumption))) _))
  have k3 : decide (v < s.ver a) = false := decide_eq_false p3
  by_cases p4 : t.rv < v
  case pos =>
    have HR := hid (show lookS s t ⟨kind, i, tx, a, v, x, why⟩ = none from if_neg (by dsimp only; omega))
    clear p1 p2 p3
    (go_enter Tryz.func75, Tryz.ntmps75; go_wp2_with fail; go_quiet ((go_at_call 131; exact Calls.quiet_of_same (HF2.out _))); go_wp2_with fail; go_ret; exact stepP_no HR.out HH.out rfl (ext_drewN (by repeat (first | assumption | exact ext_refl _ | refine ext_drew ?_ | refine ext_alloc ?_ _ | refine ext_trans ?_ (by assumption))) _))
  have k4 : decide (t.rv < v) = false := decide_eq_false p4
  have HR := hid (show lookS s t ⟨kind, i, tx, a, v, x, why⟩ = _ from if_pos (by dsimp only; omega))
  have HS : Hid (s.sts[a]? = some (-1, s.ver a)) := hid (by rw [HQ.out, p2])
  clear p1 p2 p3 p4
  go_enter Tryz.func75, Tryz.ntmps75
  go_wp2_with fail
  go_quiet ((go_at_call 131; exact Calls.quiet_of_same (HF2.out _)))
  go_wp2_with fail
  go_region
  all_goals
    go_wp2_with fail
    go_region
  all_goals (
    go_wp2_with fail
    go_ret
    (apply stepP_yes HR.out rfl; (focus (repeat (first | (with_reducible exact HK.out) | (with_reducible apply CkR.drew) | (with_reducible apply CkR.alloc) | (with_reducible apply CkR.drewN) | (with_reducible apply CkR.set_t0; any_goals (exact HI.out)) | (with_reducible apply CkR.set_t; any_goals (first | (exact HI.out) | decide)) | (with_reducible apply CkR.set_s0; any_goals (exact HA.out)) | (with_reducible apply CkR.set_s; any_goals (first | (exact HA.out) | decide)) | (with_reducible apply CkR.set_clock)))); (exact ⟨rfl, rfl⟩); ((try simp only [modify_modify]); exact map_modify' _ _ _ _ _ _ HG.out rfl); ((try simp only [modify_modify]); exact map_modify' _ _ _ _ _ _ HS.out rfl); (repeat (first | (with_reducible exact HT1.out) | (with_reducible exact Turn.refl _ _) | (with_reducible refine Turn.drew ?_) | (with_reducible refine Turn.alloc ?_ _) | (with_reducible refine Turn.drewN ?_ _) | (with_reducible refine Turn.setCell ?_ (Or.inl (by simp)) _)))))
set_option maxRecDepth 100000 in
set_option maxHeartbeats 4000000 in
theorem lock_any (h : CkAt w c tb sb s ev) (i : Nat) (hi : i < s.ths.length) {t : Th} (he : s.ths.getD i Th.zero = t) (hm : t.owned < 4294967296) (a : Nat) (ha : a < s.sts.length) (ha32 : a < 32) (kind tx v x why : Int) :
    Calls Tryz.prog 77 #[.pointer (some ⟨c, 0, none⟩), .pointer (some ⟨tb, i * 13, none⟩), .agg #[.int .u8 kind, .int .i64 (i : Int), .int .i64 tx, .int .i64 (a : Int), .int .i64 v, .int .i64 x, .int .u8 why]] w
      (StepP w c tb sb s ev (lockS s t ⟨kind, i, tx, a, v, x, why⟩)) := by
  obtain ⟨c0, c1, c2, c3, c4⟩ := h.cells
  obtain ⟨t0, t1, t2, t3, t4, t5, t6, t7, t8, t9, t10, t11, t12⟩ := h.t hi he
  have f1 : w.frozen? ⟨c, 1, none⟩ = false := h.ck.free 1
  have ft0 : w.frozen? ⟨tb, i * 13, none⟩ = false := h.th.free _
  have ft3 : w.frozen? ⟨tb, i * 13 + 3, none⟩ = false := h.th.free _
  have ft4 : w.frozen? ⟨tb, i * 13 + 4, none⟩ = false := h.th.free _
  have ft5 : w.frozen? ⟨tb, i * 13 + 5, none⟩ = false := h.th.free _
  have ft6 : w.frozen? ⟨tb, i * 13 + 6, none⟩ = false := h.th.free _
  have ft7 : w.frozen? ⟨tb, i * 13 + 7, none⟩ = false := h.th.free _
  have ft8 : w.frozen? ⟨tb, i * 13 + 8, none⟩ = false := h.th.free _
  have ft9 : w.frozen? ⟨tb, i * 13 + 9, none⟩ = false := h.th.free _
  have ft10 : w.frozen? ⟨tb, i * 13 + 10, none⟩ = false := h.th.free _
  have ft11 : w.frozen? ⟨tb, i * 13 + 11, none⟩ = false := h.th.free _
  have ft12 : w.frozen? ⟨tb, i * 13 + 12, none⟩ = false := h.th.free _
  have hcl := lt_of_cell c0
  have htl := lt_of_cell t0
  have HH := hid h
  have HK : Hid (CkR w c tb sb s.ths.length s.sts.length s.vars s.clock ev (s.ths.map thL) (s.sts.map stL)) := hid h
  have HI := hid hi
  have hne := h.ne
  have HG : Hid (s.ths[i]? = some t) := hid (get_of_getD hi he)
  have HE := hid he
  have s0 := (h.si ha).1
  have s1 := (h.si ha).2
  have fs0 : w.frozen? ⟨sb, a * 2, none⟩ = false := h.st.free _
  have fs1 : w.frozen? ⟨sb, a * 2 + 1, none⟩ = false := h.st.free _
  have ga0 : (0 : Int) ≤ (a : Int) := by omega
  have ga1 : (a : Int) < (s.sts.length : Int) := by omega
  have hsl := lt_of_cell s0
  have HA := hid ha
  have HQ : Hid (s.sts[a]? = some (s.own a, s.ver a)) := hid (get_of_getD ha rfl)
  have HF : Hid (∀ n, Calls Tryz.prog 131 #[.pointer (some ⟨c, 0, none⟩), .int .i64 (a : Int)] ((w.alloc (.cells #[.int .u8 kind, .int .i64 (i : Int), .int .i64 tx, .int .i64 (a : Int), .int .i64 v, .int .i64 x, .int .u8 why] 50)).drewN n) fun e w' => e = .returned (.bool (s.own a == -1)) ∧ w' = (w.alloc (.cells #[.int .u8 kind, .int .i64 (i : Int), .int .i64 tx, .int .i64 (a : Int), .int .i64 v, .int .i64 x, .int .u8 why] 50)).drewN n) :=
    hid fun n => (free_any (s := s) (ev := ev) ((h.alloc _).drewN n) a ha).mono fun e w' ⟨h1, h2⟩ => ⟨h1, h2.symm⟩
  clear h he hi ha
  by_cases p1 : t.at_ = 1 ∨ t.at_ = 3
  case neg =>
    have k1 : (t.at_ != 1) = true := by simp; omega
    have k2 : (t.at_ != 3) = true := by simp; omega
    have HR := hid (show lockS s t ⟨kind, i, tx, a, v, x, why⟩ = none from if_neg (by dsimp only; omega))
    clear p1
    (go_enter Tryz.func77, Tryz.ntmps77; go_wp2_with fail; go_quiet (fail); go_wp2_with fail; go_ret; exact stepP_no HR.out HH.out rfl (ext_drewN (by repeat (first | assumption | exact ext_refl _ | refine ext_drew ?_ | refine ext_alloc ?_ _ | refine ext_trans ?_ (by assumption))) _))
  by_cases p2 : t.locked < (a : Int)
  case neg =>
    have k3 : (a : Int) ≤ t.locked := by omega
    have HR := hid (show lockS s t ⟨kind, i, tx, a, v, x, why⟩ = none from if_neg (by dsimp only; omega))
    rcases p1 with q1 | q1
    · have k1 : (t.at_ != 1) = false := by simp [q1]
      clear q1 p2
      (go_enter Tryz.func77, Tryz.ntmps77; go_wp2_with fail; go_quiet (fail); go_wp2_with fail; go_ret; exact stepP_no HR.out HH.out rfl (ext_drewN (by repeat (first | assumption | exact ext_refl _ | refine ext_drew ?_ | refine ext_alloc ?_ _ | refine ext_trans ?_ (by assumption))) _))
    · have k1 : (t.at_ != 1) = true := by simp [q1]
      have k2 : (t.at_ != 3) = false := by simp [q1]
      clear q1 p2
      (go_enter Tryz.func77, Tryz.ntmps77; go_wp2_with fail; go_quiet (fail); go_wp2_with fail; go_ret; exact stepP_no HR.out HH.out rfl (ext_drewN (by repeat (first | assumption | exact ext_refl _ | refine ext_drew ?_ | refine ext_alloc ?_ _ | refine ext_trans ?_ (by assumption))) _))
  have k3 : decide ((a : Int) ≤ t.locked) = false := decide_eq_false (by omega)
  by_cases p3 : s.own a = -1
  case neg =>
    have HF2 : Hid (∀ n, Calls Tryz.prog 131 #[.pointer (some ⟨c, 0, none⟩), .int .i64 (a : Int)] ((w.alloc (.cells #[.int .u8 kind, .int .i64 (i : Int), .int .i64 tx, .int .i64 (a : Int), .int .i64 v, .int .i64 x, .int .u8 why] 50)).drewN n) fun e w' => e = .returned (.bool false) ∧ w' = (w.alloc (.cells #[.int .u8 kind, .int .i64 (i : Int), .int .i64 tx, .int .i64 (a : Int), .int .i64 v, .int .i64 x, .int .u8 why] 50)).drewN n) :=
      hid fun n => (HF.out n).mono fun e w' ⟨h1, h2⟩ => ⟨by rw [h1, beq_eq_false_iff_ne.2 p3], h2⟩
    have HR := hid (show lockS s t ⟨kind, i, tx, a, v, x, why⟩ = none from if_neg (by dsimp only; omega))
    rcases p1 with q1 | q1
    · have k1 : (t.at_ != 1) = false := by simp [q1]
      clear q1 p2 p3
      (go_enter Tryz.func77, Tryz.ntmps77; go_wp2_with fail; go_quiet ((go_at_call 131; exact Calls.quiet_of_same (HF2.out _))); go_wp2_with fail; go_ret; exact stepP_no HR.out HH.out rfl (ext_drewN (by repeat (first | assumption | exact ext_refl _ | refine ext_drew ?_ | refine ext_alloc ?_ _ | refine ext_trans ?_ (by assumption))) _))
    · have k1 : (t.at_ != 1) = true := by simp [q1]
      have k2 : (t.at_ != 3) = false := by simp [q1]
      clear q1 p2 p3
      (go_enter Tryz.func77, Tryz.ntmps77; go_wp2_with fail; go_quiet ((go_at_call 131; exact Calls.quiet_of_same (HF2.out _))); go_wp2_with fail; go_ret; exact stepP_no HR.out HH.out rfl (ext_drewN (by repeat (first | assumption | exact ext_refl _ | refine ext_drew ?_ | refine ext_alloc ?_ _ | refine ext_trans ?_ (by assumption))) _))
  have HF2 : Hid (∀ n, Calls Tryz.prog 131 #[.pointer (some ⟨c, 0, none⟩), .int .i64 (a : Int)] ((w.alloc (.cells #[.int .u8 kind, .int .i64 (i : Int), .int .i64 tx, .int .i64 (a : Int), .int .i64 v, .int .i64 x, .int .u8 why] 50)).drewN n) fun e w' => e = .returned (.bool true) ∧ w' = (w.alloc (.cells #[.int .u8 kind, .int .i64 (i : Int), .int .i64 tx, .int .i64 (a : Int), .int .i64 v, .int .i64 x, .int .u8 why] 50)).drewN n) :=
    hid fun n => (HF.out n).mono fun e w' ⟨h1, h2⟩ => ⟨by rw [h1, beq_iff_eq.2 p3], h2⟩
  have HR := hid (show lockS s t ⟨kind, i, tx, a, v, x, why⟩ = _ from if_pos ⟨p1, p2, p3⟩)
  have HS := HQ
  have hor := or_bit t.owned a hm ha32
  rcases p1 with q1 | q1
  · have k1 : (t.at_ != 1) = false := by simp [q1]
    clear q1 p2 p3
    go_enter Tryz.func77, Tryz.ntmps77
    go_wp2_with fail
    go_quiet ((go_at_call 131; exact Calls.quiet_of_same (HF2.out _)))
    go_wp2_with fail
    go_region
    all_goals
      go_wp2_with fail
    all_goals
      go_region
    all_goals
      go_wp2_with fail
    all_goals
      go_region
    all_goals (
      go_wp2_with fail
      go_ret
      (apply stepP_yes HR.out rfl; (focus (repeat (first | (with_reducible exact HK.out) | (with_reducible apply CkR.drew) | (with_reducible apply CkR.alloc) | (with_reducible apply CkR.drewN) | (with_reducible apply CkR.set_t0; any_goals (exact HI.out)) | (with_reducible apply CkR.set_t; any_goals (first | (exact HI.out) | decide)) | (with_reducible apply CkR.set_s0; any_goals (exact HA.out)) | (with_reducible apply CkR.set_s; any_goals (first | (exact HA.out) | decide)) | (with_reducible apply CkR.set_clock)))); (exact ⟨rfl, rfl⟩); ((try simp only [modify_modify]); exact map_modify' _ _ _ _ _ _ HG.out rfl); ((try simp only [modify_modify]); exact map_modify' _ _ _ _ _ _ HS.out rfl); (repeat (first | (with_reducible exact HT1.out) | (with_reducible exact Turn.refl _ _) | (with_reducible refine Turn.drew ?_) | (with_reducible refine Turn.alloc ?_ _) | (with_reducible refine Turn.drewN ?_ _) | (with_reducible refine Turn.setCell ?_ (Or.inl (by simp)) _)))))
  · have k1 : (t.at_ != 1) = true := by simp [q1]
    have k2 : (t.at_ != 3) = false := by simp [q1]
    clear q1 p2 p3
    go_enter Tryz.func77, Tryz.ntmps77
    go_wp2_with fail
    go_quiet ((go_at_call 131; exact Calls.quiet_of_same (HF2.out _)))
    go_wp2_with fail
    go_region
    all_goals
      go_wp2_with fail
    all_goals
      go_region
    all_goals
      go_wp2_with fail
    all_goals
      go_region
    all_goals (
      go_wp2_with fail
      go_ret
      (apply stepP_yes HR.out rfl; (focus (repeat (first | (with_reducible exact HK.out) | (with_reducible apply CkR.drew) | (with_reducible apply CkR.alloc) | (with_reducible apply CkR.drewN) | (with_reducible apply CkR.set_t0; any_goals (exact HI.out)) | (with_reducible apply CkR.set_t; any_goals (first | (exact HI.out) | decide)) | (with_reducible apply CkR.set_s0; any_goals (exact HA.out)) | (with_reducible apply CkR.set_s; any_goals (first | (exact HA.out) | decide)) | (with_reducible apply CkR.set_clock)))); (exact ⟨rfl, rfl⟩); ((try simp only [modify_modify]); exact map_modify' _ _ _ _ _ _ HG.out rfl); ((try simp only [modify_modify]); exact map_modify' _ _ _ _ _ _ HS.out rfl); (repeat (first | (with_reducible exact HT1.out) | (with_reducible exact Turn.refl _ _) | (with_reducible refine Turn.drew ?_) | (with_reducible refine Turn.alloc ?_ _) | (with_reducible refine Turn.drewN ?_ _) | (with_reducible refine Turn.setCell ?_ (Or.inl (by simp)) _)))))
end
end Go.Proofs.YtnblhodhkifeeaaGreatDoor
/-
  The checker; walks: Bump, Wait, Load.
-/
namespace Go.Proofs.YtnblhodhkifeeaaGreatDoor
set_option linter.unusedVariables false
open Go Go.RowKit
section
variable {w : World} {c tb sb : Nat} {s : Sh} {ev : Nat}
set_option maxRecDepth 100000 in
set_option maxHeartbeats 4000000 in
theorem bump_any (h : CkAt w c tb sb s ev) (i : Nat) (hi : i < s.ths.length) {t : Th} (he : s.ths.getD i Th.zero = t) (hrv : 0 ≤ t.rv ∧ t.rv ≤ 1099511627776) (kind tx at_ v x why : Int) :
    Calls Tryz.prog 78 #[.pointer (some ⟨c, 0, none⟩), .pointer (some ⟨tb, i * 13, none⟩), .agg #[.int .u8 kind, .int .i64 (i : Int), .int .i64 tx, .int .i64 at_, .int .i64 v, .int .i64 x, .int .u8 why]] w
      (StepP w c tb sb s ev (bumpS s t ⟨kind, i, tx, at_, v, x, why⟩)) := by
  obtain ⟨c0, c1, c2, c3, c4⟩ := h.cells
  obtain ⟨t0, t1, t2, t3, t4, t5, t6, t7, t8, t9, t10, t11, t12⟩ := h.t hi he
  have f1 : w.frozen? ⟨c, 1, none⟩ = false := h.ck.free 1
  have ft0 : w.frozen? ⟨tb, i * 13, none⟩ = false := h.th.free _
  have ft3 : w.frozen? ⟨tb, i * 13 + 3, none⟩ = false := h.th.free _
  have ft4 : w.frozen? ⟨tb, i * 13 + 4, none⟩ = false := h.th.free _
  have ft5 : w.frozen? ⟨tb, i * 13 + 5, none⟩ = false := h.th.free _
  have ft6 : w.frozen? ⟨tb, i * 13 + 6, none⟩ = false := h.th.free _
  have ft7 : w.frozen? ⟨tb, i * 13 + 7, none⟩ = false := h.th.free _
  have ft8 : w.frozen? ⟨tb, i * 13 + 8, none⟩ = false := h.th.free _
  have ft9 : w.frozen? ⟨tb, i * 13 + 9, none⟩ = false := h.th.free _
  have ft10 : w.frozen? ⟨tb, i * 13 + 10, none⟩ = false := h.th.free _
  have ft11 : w.frozen? ⟨tb, i * 13 + 11, none⟩ = false := h.th.free _
  have ft12 : w.frozen? ⟨tb, i * 13 + 12, none⟩ = false := h.th.free _
  have hcl := lt_of_cell c0
  have htl := lt_of_cell t0
  have HH := hid h
  have HK : Hid (CkR w c tb sb s.ths.length s.sts.length s.vars s.clock ev (s.ths.map thL) (s.sts.map stL)) := hid h
  have HI := hid hi
  have hne := h.ne
  have HG : Hid (s.ths[i]? = some t) := hid (get_of_getD hi he)
  have HE := hid he
  have hr1 := hrv.1
  have hr2 := hrv.2
  have hw1 : IntKind.i64.wrap (t.rv + 1) = t.rv + 1 := IntWalk.i64_in _ (by omega)
  clear h he hi
  by_cases p1 : t.at_ = 3
  case neg =>
    have k1 : (t.at_ != 3) = true := by simpa using p1
    have HR := hid (show bumpS s t ⟨kind, i, tx, at_, v, x, why⟩ = none from if_neg (by dsimp only; omega))
    clear p1 hw1
    (go_enter Tryz.func78, Tryz.ntmps78; go_wp2_with fail; go_quiet (fail); go_wp2_with fail; go_ret; exact stepP_no HR.out HH.out rfl (ext_drewN (by repeat (first | assumption | exact ext_refl _ | refine ext_drew ?_ | refine ext_alloc ?_ _ | refine ext_trans ?_ (by assumption))) _))
  have k1 : (t.at_ != 3) = false := by simpa using p1
  by_cases p2 : s.clock < v
  case neg =>
    have k2 : v ≤ s.clock := by omega
    have HR := hid (show bumpS s t ⟨kind, i, tx, at_, v, x, why⟩ = none from if_neg (by dsimp only; omega))
    clear p1 p2 hw1
    (go_enter Tryz.func78, Tryz.ntmps78; go_wp2_with fail; go_quiet (fail); go_wp2_with fail; go_ret; exact stepP_no HR.out HH.out rfl (ext_drewN (by repeat (first | assumption | exact ext_refl _ | refine ext_drew ?_ | refine ext_alloc ?_ _ | refine ext_trans ?_ (by assumption))) _))
  have k2 : decide (v ≤ s.clock) = false := decide_eq_false (by omega)
  by_cases p3 : v = t.rv + 1
  · have k3 : (v != t.rv + 1) = false := by simpa using p3
    have HR : Hid (bumpS s t ⟨kind, i, tx, at_, v, x, why⟩ = some ({ s with clock := v }.setTh i { t with at_ := 4, wv := v, check := t.check })) := hid (by
      unfold bumpS; rw [if_pos ⟨p1, p2⟩]; simp only [if_pos p3])
    clear p1 p2 p3
    go_enter Tryz.func78, Tryz.ntmps78
    go_wp2_with fail
    go_quiet (fail)
    go_wp2_with fail
    go_region
    all_goals
      go_wp2_with fail
    all_goals
      go_region
    all_goals (
      go_wp2_with fail
      go_ret
      (apply stepP_yes HR.out rfl; (focus (repeat (first | (with_reducible exact HK.out) | (with_reducible apply CkR.drew) | (with_reducible apply CkR.alloc) | (with_reducible apply CkR.drewN) | (with_reducible apply CkR.set_t0; any_goals (exact HI.out)) | (with_reducible apply CkR.set_t; any_goals (first | (exact HI.out) | decide)) | (with_reducible apply CkR.set_s0; any_goals (exact HA.out)) | (with_reducible apply CkR.set_s; any_goals (first | (exact HA.out) | decide)) | (with_reducible apply CkR.set_clock)))); (exact ⟨rfl, rfl⟩); ((try simp only [modify_modify]); exact map_modify' _ _ _ _ _ _ HG.out rfl); rfl; (repeat (first | (with_reducible exact HT1.out) | (with_reducible exact Turn.refl _ _) | (with_reducible refine Turn.drew ?_) | (with_reducible refine Turn.alloc ?_ _) | (with_reducible refine Turn.drewN ?_ _) | (with_reducible refine Turn.setCell ?_ (Or.inl (by simp)) _)))))
  · have k3 : (v != t.rv + 1) = true := by simpa using p3
    have HR : Hid (bumpS s t ⟨kind, i, tx, at_, v, x, why⟩ = some ({ s with clock := v }.setTh i { t with at_ := 4, wv := v, check := t.read })) := hid (by
      unfold bumpS; rw [if_pos ⟨p1, p2⟩]; simp only [if_neg p3])
    clear p1 p2 p3
    go_enter Tryz.func78, Tryz.ntmps78
    go_wp2_with fail
    go_quiet (fail)
    go_wp2_with fail
    go_region
    all_goals
      go_wp2_with fail
    all_goals
      go_region
    all_goals (
      go_wp2_with fail
      go_ret
      (apply stepP_yes HR.out rfl; (focus (repeat (first | (with_reducible exact HK.out) | (with_reducible apply CkR.drew) | (with_reducible apply CkR.alloc) | (with_reducible apply CkR.drewN) | (with_reducible apply CkR.set_t0; any_goals (exact HI.out)) | (with_reducible apply CkR.set_t; any_goals (first | (exact HI.out) | decide)) | (with_reducible apply CkR.set_s0; any_goals (exact HA.out)) | (with_reducible apply CkR.set_s; any_goals (first | (exact HA.out) | decide)) | (with_reducible apply CkR.set_clock)))); (exact ⟨rfl, rfl⟩); ((try simp only [modify_modify]); exact map_modify' _ _ _ _ _ _ HG.out rfl); rfl; (repeat (first | (with_reducible exact HT1.out) | (with_reducible exact Turn.refl _ _) | (with_reducible refine Turn.drew ?_) | (with_reducible refine Turn.alloc ?_ _) | (with_reducible refine Turn.drewN ?_ _) | (with_reducible refine Turn.setCell ?_ (Or.inl (by simp)) _)))))
set_option maxRecDepth 100000 in
set_option maxHeartbeats 4000000 in
theorem wait_any (h : CkAt w c tb sb s ev) (i : Nat) (hi : i < s.ths.length) {t : Th} (he : s.ths.getD i Th.zero = t) (kind tx at_ v x why : Int) :
    Calls Tryz.prog 85 #[.pointer (some ⟨c, 0, none⟩), .pointer (some ⟨tb, i * 13, none⟩), .agg #[.int .u8 kind, .int .i64 (i : Int), .int .i64 tx, .int .i64 at_, .int .i64 v, .int .i64 x, .int .u8 why]] w
      (StepP w c tb sb s ev (waitS s t ⟨kind, i, tx, at_, v, x, why⟩)) := by
  obtain ⟨c0, c1, c2, c3, c4⟩ := h.cells
  obtain ⟨t0, t1, t2, t3, t4, t5, t6, t7, t8, t9, t10, t11, t12⟩ := h.t hi he
  have f1 : w.frozen? ⟨c, 1, none⟩ = false := h.ck.free 1
  have ft0 : w.frozen? ⟨tb, i * 13, none⟩ = false := h.th.free _
  have ft3 : w.frozen? ⟨tb, i * 13 + 3, none⟩ = false := h.th.free _
  have ft4 : w.frozen? ⟨tb, i * 13 + 4, none⟩ = false := h.th.free _
  have ft5 : w.frozen? ⟨tb, i * 13 + 5, none⟩ = false := h.th.free _
  have ft6 : w.frozen? ⟨tb, i * 13 + 6, none⟩ = false := h.th.free _
  have ft7 : w.frozen? ⟨tb, i * 13 + 7, none⟩ = false := h.th.free _
  have ft8 : w.frozen? ⟨tb, i * 13 + 8, none⟩ = false := h.th.free _
  have ft9 : w.frozen? ⟨tb, i * 13 + 9, none⟩ = false := h.th.free _
  have ft10 : w.frozen? ⟨tb, i * 13 + 10, none⟩ = false := h.th.free _
  have ft11 : w.frozen? ⟨tb, i * 13 + 11, none⟩ = false := h.th.free _
  have ft12 : w.frozen? ⟨tb, i * 13 + 12, none⟩ = false := h.th.free _
  have hcl := lt_of_cell c0
  have htl := lt_of_cell t0
  have HH := hid h
  have HK : Hid (CkR w c tb sb s.ths.length s.sts.length s.vars s.clock ev (s.ths.map thL) (s.sts.map stL)) := hid h
  have HI := hid hi
  have hne := h.ne
  have HG : Hid (s.ths[i]? = some t) := hid (get_of_getD hi he)
  have HE := hid he
  clear h he hi
  by_cases p1 : t.at_ = 1
  case neg =>
    have k1 : (t.at_ != 1) = true := by simpa using p1
    have HR := hid (show waitS s t ⟨kind, i, tx, at_, v, x, why⟩ = none from if_neg p1)
    clear p1
    go_enter Tryz.func85, Tryz.ntmps85
    go_wp2_with fail
    go_ret
    exact stepP_no HR.out HH.out rfl (by repeat (first | assumption | exact ext_refl _ | refine ext_drew ?_ | refine ext_alloc ?_ _ | refine ext_trans ?_ (by assumption)))
  have k1 : (t.at_ != 1) = false := by simpa using p1
  have HR := hid (show waitS s t ⟨kind, i, tx, at_, v, x, why⟩ = _ from if_pos p1)
  clear p1
  go_enter Tryz.func85, Tryz.ntmps85
  go_wp2_with fail
  go_ret
  (apply stepP_yes HR.out rfl; (focus (repeat (first | (with_reducible exact HK.out) | (with_reducible apply CkR.drew) | (with_reducible apply CkR.alloc) | (with_reducible apply CkR.drewN) | (with_reducible apply CkR.set_t0; any_goals (exact HI.out)) | (with_reducible apply CkR.set_t; any_goals (first | (exact HI.out) | decide)) | (with_reducible apply CkR.set_s0; any_goals (exact HA.out)) | (with_reducible apply CkR.set_s; any_goals (first | (exact HA.out) | decide)) | (with_reducible apply CkR.set_clock)))); (exact ⟨rfl, rfl⟩); ((try simp only [modify_modify]); exact map_modify' _ _ _ _ _ _ HG.out rfl); rfl; (repeat (first | (with_reducible exact HT1.out) | (with_reducible exact Turn.refl _ _) | (with_reducible refine Turn.drew ?_) | (with_reducible refine Turn.alloc ?_ _) | (with_reducible refine Turn.drewN ?_ _) | (with_reducible refine Turn.setCell ?_ (Or.inl (by simp)) _))))
set_option maxRecDepth 100000 in
set_option maxHeartbeats 4000000 in
theorem load_any (h : CkAt w c tb sb s ev) (i : Nat) (hi : i < s.ths.length) {t : Th} (he : s.ths.getD i Th.zero = t) (hm : t.read < 4294967296) (q : Nat) (hq : t.stripe = (q : Int)) (hqn : q < s.sts.length) (hq32 : q < 32) (a : Nat) (kind tx v x why : Int) :
    Calls Tryz.prog 76 #[.pointer (some ⟨c, 0, none⟩), .pointer (some ⟨tb, i * 13, none⟩), .agg #[.int .u8 kind, .int .i64 (i : Int), .int .i64 tx, .int .i64 (a : Int), .int .i64 v, .int .i64 x, .int .u8 why]] w
      (StepP w c tb sb s ev (loadS s t ⟨kind, i, tx, a, v, x, why⟩)) := by
  obtain ⟨c0, c1, c2, c3, c4⟩ := h.cells
  obtain ⟨t0, t1, t2, t3, t4, t5, t6, t7, t8, t9, t10, t11, t12⟩ := h.t hi he
  have f1 : w.frozen? ⟨c, 1, none⟩ = false := h.ck.free 1
  have ft0 : w.frozen? ⟨tb, i * 13, none⟩ = false := h.th.free _
  have ft3 : w.frozen? ⟨tb, i * 13 + 3, none⟩ = false := h.th.free _
  have ft4 : w.frozen? ⟨tb, i * 13 + 4, none⟩ = false := h.th.free _
  have ft5 : w.frozen? ⟨tb, i * 13 + 5, none⟩ = false := h.th.free _
  have ft6 : w.frozen? ⟨tb, i * 13 + 6, none⟩ = false := h.th.free _
  have ft7 : w.frozen? ⟨tb, i * 13 + 7, none⟩ = false := h.th.free _
  have ft8 : w.frozen? ⟨tb, i * 13 + 8, none⟩ = false := h.th.free _
  have ft9 : w.frozen? ⟨tb, i * 13 + 9, none⟩ = false := h.th.free _
  have ft10 : w.frozen? ⟨tb, i * 13 + 10, none⟩ = false := h.th.free _
  have ft11 : w.frozen? ⟨tb, i * 13 + 11, none⟩ = false := h.th.free _
  have ft12 : w.frozen? ⟨tb, i * 13 + 12, none⟩ = false := h.th.free _
  have hcl := lt_of_cell c0
  have htl := lt_of_cell t0
  have HH := hid h
  have HK : Hid (CkR w c tb sb s.ths.length s.sts.length s.vars s.clock ev (s.ths.map thL) (s.sts.map stL)) := hid h
  have HI := hid hi
  have hne := h.ne
  have HG : Hid (s.ths[i]? = some t) := hid (get_of_getD hi he)
  have HE := hid he
  have HF : Hid (∀ n, Calls Tryz.prog 132 #[.pointer (some ⟨c, 0, none⟩), .pointer (some ⟨tb, i * 13, none⟩)] ((w.alloc (.cells #[.int .u8 kind, .int .i64 (i : Int), .int .i64 tx, .int .i64 (a : Int), .int .i64 v, .int .i64 x, .int .u8 why] 50)).drewN n) fun e w' => e = .returned (.bool (decide (s.own t.stripe = -1 ∧ s.ver t.stripe = t.v))) ∧ ∃ m, w' = ((w.alloc (.cells #[.int .u8 kind, .int .i64 (i : Int), .int .i64 tx, .int .i64 (a : Int), .int .i64 v, .int .i64 x, .int .u8 why] 50)).drewN n).drewN m) :=
    hid fun n => still_any (s := s) (ev := ev) ((h.alloc _).drewN n) hi he hq hqn
  have gn : (1 : Int) ≤ (s.sts.length : Int) := by omega
  have gn2 : (0 : Int) < (s.sts.length : Int) := by omega
  have ga0 : (0 : Int) ≤ (a : Int) := by omega
  have gq0 : (0 : Int) ≤ (q : Int) := by omega
  have hor := or_bit t.read q hm hq32
  rw [hq] at t4
  have hqs : t.stripe.toNat = q := by omega
  clear h he hi
  by_cases p1 : t.at_ = 2
  case neg =>
    have k1 : (t.at_ != 2) = true := by simpa using p1
    have HR := hid (show loadS s t ⟨kind, i, tx, a, v, x, why⟩ = none from if_neg (by dsimp only; omega))
    clear p1 hq hqs
    (go_enter Tryz.func76, Tryz.ntmps76; go_wp2_with fail; go_quiet (fail); go_wp2_with fail; go_ret; exact stepP_no HR.out HH.out rfl (ext_drewN (by repeat (first | assumption | exact ext_refl _ | refine ext_drew ?_ | refine ext_alloc ?_ _ | refine ext_trans ?_ (by assumption))) _))
  have k1 : (t.at_ != 2) = false := by simpa using p1
  by_cases p2 : (a : Int) % (s.sts.length : Int) = (q : Int)
  case neg =>
    have k2 : ((a : Int) % (s.sts.length : Int) != (q : Int)) = true := by simpa using p2
    have k3 : ((a : Int).tmod (s.sts.length : Int) != (q : Int)) = true := by rw [Int.tmod_eq_emod_of_nonneg ga0]; exact k2
    have HR := hid (show loadS s t ⟨kind, i, tx, a, v, x, why⟩ = none from if_neg (by dsimp only; rw [hq]; intro hh; exact p2 hh.2.1))
    clear p1 p2 hq hqs
    (go_enter Tryz.func76, Tryz.ntmps76; go_wp2_with fail; go_quiet (fail); go_wp2_with fail; go_ret; exact stepP_no HR.out HH.out rfl (ext_drewN (by repeat (first | assumption | exact ext_refl _ | refine ext_drew ?_ | refine ext_alloc ?_ _ | refine ext_trans ?_ (by assumption))) _))
  have k2 : ((a : Int) % (s.sts.length : Int) != (q : Int)) = false := by simpa using p2
  have k3 : ((a : Int).tmod (s.sts.length : Int) != (q : Int)) = false := by rw [Int.tmod_eq_emod_of_nonneg ga0]; exact k2
  by_cases p3 : s.own t.stripe = -1 ∧ s.ver t.stripe = t.v
  case neg =>
    have HF2 : Hid (∀ n, Calls Tryz.prog 132 #[.pointer (some ⟨c, 0, none⟩), .pointer (some ⟨tb, i * 13, none⟩)] ((w.alloc (.cells #[.int .u8 kind, .int .i64 (i : Int), .int .i64 tx, .int .i64 (a : Int), .int .i64 v, .int .i64 x, .int .u8 why] 50)).drewN n) fun e w' => e = .returned (.bool false) ∧ ∃ m, w' = ((w.alloc (.cells #[.int .u8 kind, .int .i64 (i : Int), .int .i64 tx, .int .i64 (a : Int), .int .i64 v, .int .i64 x, .int .u8 why] 50)).drewN n).drewN m) :=
      hid fun n => (HF.out n).mono fun e w' ⟨h1, h2⟩ => ⟨by rw [h1, decide_eq_false p3], h2⟩
    have HR := hid (show loadS s t ⟨kind, i, tx, a, v, x, why⟩ = none from if_neg (fun hh => p3 ⟨hh.2.2.1, hh.2.2.2⟩))
    clear p1 p2 p3 hq hqs
    go_enter Tryz.func76, Tryz.ntmps76
    go_wp2_with fail
    go_quiet ((go_at_call 132; exact Calls.quiet_of (HF2.out _)))
    go_wp2_with fail
    go_ret
    exact stepP_no HR.out HH.out rfl (ext_drewN (by repeat (first | assumption | exact ext_refl _ | refine ext_drew ?_ | refine ext_alloc ?_ _ | refine ext_trans ?_ (by assumption))) _)
  have HF2 : Hid (∀ n, Calls Tryz.prog 132 #[.pointer (some ⟨c, 0, none⟩), .pointer (some ⟨tb, i * 13, none⟩)] ((w.alloc (.cells #[.int .u8 kind, .int .i64 (i : Int), .int .i64 tx, .int .i64 (a : Int), .int .i64 v, .int .i64 x, .int .u8 why] 50)).drewN n) fun e w' => e = .returned (.bool true) ∧ ∃ m, w' = ((w.alloc (.cells #[.int .u8 kind, .int .i64 (i : Int), .int .i64 tx, .int .i64 (a : Int), .int .i64 v, .int .i64 x, .int .u8 why] 50)).drewN n).drewN m) :=
    hid fun n => (HF.out n).mono fun e w' ⟨h1, h2⟩ => ⟨by rw [h1, decide_eq_true p3], h2⟩
  have HR : Hid (loadS s t ⟨kind, i, tx, a, v, x, why⟩ = some (s.setTh i { t with at_ := 1, read := setb t.read q })) := hid (by
    unfold loadS; rw [if_pos ⟨p1, by rw [hq]; exact p2, p3.1, p3.2⟩, hqs])
  clear p1 p2 p3 hq hqs
  go_enter Tryz.func76, Tryz.ntmps76
  go_wp2_with fail
  go_quiet ((go_at_call 132; exact Calls.quiet_of (HF2.out _)))
  go_wp2_with fail
  go_region
  all_goals (
    go_wp2_with fail
    go_ret
    (apply stepP_yes HR.out rfl; (focus (repeat (first | (with_reducible exact HK.out) | (with_reducible apply CkR.drew) | (with_reducible apply CkR.alloc) | (with_reducible apply CkR.drewN) | (with_reducible apply CkR.set_t0; any_goals (exact HI.out)) | (with_reducible apply CkR.set_t; any_goals (first | (exact HI.out) | decide)) | (with_reducible apply CkR.set_s0; any_goals (exact HA.out)) | (with_reducible apply CkR.set_s; any_goals (first | (exact HA.out) | decide)) | (with_reducible apply CkR.set_clock)))); (exact ⟨rfl, rfl⟩); ((try simp only [modify_modify]); exact map_modify' _ _ _ _ _ _ HG.out rfl); rfl; (repeat (first | (with_reducible exact HT1.out) | (with_reducible exact Turn.refl _ _) | (with_reducible refine Turn.drew ?_) | (with_reducible refine Turn.alloc ?_ _) | (with_reducible refine Turn.drewN ?_ _) | (with_reducible refine Turn.setCell ?_ (Or.inl (by simp)) _)))))
end
end Go.Proofs.YtnblhodhkifeeaaGreatDoor
/-
  The checker; walks: ends, leave, Commit, Store.
-/
namespace Go.Proofs.YtnblhodhkifeeaaGreatDoor
set_option linter.unusedVariables false
open Go Go.RowKit
section
variable {w : World} {c tb sb : Nat} {s : Sh} {ev : Nat}
set_option maxRecDepth 100000 in
set_option maxHeartbeats 4000000 in
theorem ends_any (b o : Nat) (n m : Int) (w : World) (h0 : w.cell? ⟨b, o, none⟩ = some (.int .i64 m)) (h1 : w.cell? ⟨b, o + 1, none⟩ = some (.int .i64 n)) (hn : 0 ≤ n ∧ n ≤ 1000000000) (f0 : w.frozen? ⟨b, o, none⟩ = false) (f1 : w.frozen? ⟨b, o + 1, none⟩ = false) :
    Calls Tryz.prog 136 #[.pointer (some ⟨b, o, none⟩)] w fun e w' => e = .returned (.tuple #[]) ∧ w' = (w.setCell ⟨b, o, none⟩ (.int .i64 0)).setCell ⟨b, o + 1, none⟩ (.int .i64 (n + 1)) := by
  have a1 := hn.1
  have a2 := hn.2
  clear hn
  go_enter Tryz.func136, Tryz.ntmps136
  go_wp2_with fail
  go_end0
  exact ⟨rfl, rfl⟩
set_option maxRecDepth 100000 in
set_option maxHeartbeats 4000000 in
theorem leave_any (h : CkAt w c tb sb s ev) (i : Nat) (hi : i < s.ths.length) {t : Th} (he : s.ths.getD i Th.zero = t) (hm : t.owned < 4294967296) (a : Nat) (ha : a < s.sts.length) (ha32 : a < 32) :
    Calls Tryz.prog 137 #[.pointer (some ⟨c, 0, none⟩), .pointer (some ⟨tb, i * 13, none⟩), .int .i64 (a : Int)] w fun e w' => e = .returned (.tuple #[]) ∧ w' = ((w.setCell ⟨tb, i * 13 + 7, none⟩ (.int .u32 ((clrb t.owned a : Nat) : Int))).setCell ⟨sb, a * 2, none⟩ (.int .i64 (-1))).drew := by
  obtain ⟨c0, c1, c2, c3, c4⟩ := h.cells
  obtain ⟨t0, t1, t2, t3, t4, t5, t6, t7, t8, t9, t10, t11, t12⟩ := h.t hi he
  have f1 : w.frozen? ⟨c, 1, none⟩ = false := h.ck.free 1
  have ft0 : w.frozen? ⟨tb, i * 13, none⟩ = false := h.th.free _
  have ft3 : w.frozen? ⟨tb, i * 13 + 3, none⟩ = false := h.th.free _
  have ft4 : w.frozen? ⟨tb, i * 13 + 4, none⟩ = false := h.th.free _
  have ft5 : w.frozen? ⟨tb, i * 13 + 5, none⟩ = false := h.th.free _
  have ft6 : w.frozen? ⟨tb, i * 13 + 6, none⟩ = false := h.th.free _
  have ft7 : w.frozen? ⟨tb, i * 13 + 7, none⟩ = false := h.th.free _
  have ft8 : w.frozen? ⟨tb, i * 13 + 8, none⟩ = false := h.th.free _
  have ft9 : w.frozen? ⟨tb, i * 13 + 9, none⟩ = false := h.th.free _
  have ft10 : w.frozen? ⟨tb, i * 13 + 10, none⟩ = false := h.th.free _
  have ft11 : w.frozen? ⟨tb, i * 13 + 11, none⟩ = false := h.th.free _
  have ft12 : w.frozen? ⟨tb, i * 13 + 12, none⟩ = false := h.th.free _
  have hcl := lt_of_cell c0
  have htl := lt_of_cell t0
  have HH := hid h
  have HK : Hid (CkR w c tb sb s.ths.length s.sts.length s.vars s.clock ev (s.ths.map thL) (s.sts.map stL)) := hid h
  have HI := hid hi
  have hne := h.ne
  have HG : Hid (s.ths[i]? = some t) := hid (get_of_getD hi he)
  have HE := hid he
  have s0 := (h.si ha).1
  have s1 := (h.si ha).2
  have fs0 : w.frozen? ⟨sb, a * 2, none⟩ = false := h.st.free _
  have fs1 : w.frozen? ⟨sb, a * 2 + 1, none⟩ = false := h.st.free _
  have ga0 : (0 : Int) ≤ (a : Int) := by omega
  have ga1 : (a : Int) < (s.sts.length : Int) := by omega
  have hsl := lt_of_cell s0
  have HA := hid ha
  have HQ : Hid (s.sts[a]? = some (s.own a, s.ver a)) := hid (get_of_getD ha rfl)
  have hcb := clr_bit t.owned a hm ha32
  clear h he hi ha
  go_enter Tryz.func137, Tryz.ntmps137
  go_wp2_with fail
  go_region
  all_goals (
    go_wp2_with fail
    go_end0
    exact ⟨rfl, rfl⟩)
set_option maxRecDepth 100000 in
set_option maxHeartbeats 4000000 in
theorem commit_any (h : CkAt w c tb sb s ev) (i : Nat) (hi : i < s.ths.length) {t : Th} (he : s.ths.getD i Th.zero = t) (hcm : 0 ≤ t.commits ∧ t.commits ≤ 1000000000) (kind tx at_ v x why : Int) :
    Calls Tryz.prog 80 #[.pointer (some ⟨c, 0, none⟩), .pointer (some ⟨tb, i * 13, none⟩), .agg #[.int .u8 kind, .int .i64 (i : Int), .int .i64 tx, .int .i64 at_, .int .i64 v, .int .i64 x, .int .u8 why]] w
      (StepP w c tb sb s ev (commitS s t ⟨kind, i, tx, at_, v, x, why⟩)) := by
  obtain ⟨c0, c1, c2, c3, c4⟩ := h.cells
  obtain ⟨t0, t1, t2, t3, t4, t5, t6, t7, t8, t9, t10, t11, t12⟩ := h.t hi he
  have f1 : w.frozen? ⟨c, 1, none⟩ = false := h.ck.free 1
  have ft0 : w.frozen? ⟨tb, i * 13, none⟩ = false := h.th.free _
  have ft3 : w.frozen? ⟨tb, i * 13 + 3, none⟩ = false := h.th.free _
  have ft4 : w.frozen? ⟨tb, i * 13 + 4, none⟩ = false := h.th.free _
  have ft5 : w.frozen? ⟨tb, i * 13 + 5, none⟩ = false := h.th.free _
  have ft6 : w.frozen? ⟨tb, i * 13 + 6, none⟩ = false := h.th.free _
  have ft7 : w.frozen? ⟨tb, i * 13 + 7, none⟩ = false := h.th.free _
  have ft8 : w.frozen? ⟨tb, i * 13 + 8, none⟩ = false := h.th.free _
  have ft9 : w.frozen? ⟨tb, i * 13 + 9, none⟩ = false := h.th.free _
  have ft10 : w.frozen? ⟨tb, i * 13 + 10, none⟩ = false := h.th.free _
  have ft11 : w.frozen? ⟨tb, i * 13 + 11, none⟩ = false := h.th.free _
  have ft12 : w.frozen? ⟨tb, i * 13 + 12, none⟩ = false := h.th.free _
  have hcl := lt_of_cell c0
  have htl := lt_of_cell t0
  have HH := hid h
  have HK : Hid (CkR w c tb sb s.ths.length s.sts.length s.vars s.clock ev (s.ths.map thL) (s.sts.map stL)) := hid h
  have HI := hid hi
  have hne := h.ne
  have HG : Hid (s.ths[i]? = some t) := hid (get_of_getD hi he)
  have HE := hid he
  have ft1 : w.frozen? ⟨tb, i * 13 + 1, none⟩ = false := h.th.free _
  have HCM := hid hcm
  clear h he hi hcm
  by_cases p1 : v = 0
  · have k1 : (v == 0) = true := by simpa using p1
    have k1' : (v != 0) = false := by simpa using p1
    by_cases p2 : t.at_ = 1
    · have k2 : (t.at_ == 1) = true := by simpa using p2
      have HR := hid (show commitS s t ⟨kind, i, tx, at_, v, x, why⟩ = _ from if_pos ⟨p1, p2⟩)
      clear p1 p2
      go_enter Tryz.func80, Tryz.ntmps80
      go_wp2_with fail
      refine (ends_any tb (i * 13) t.commits t.at_ _ (cell_alloc t0) (cell_alloc t1) HCM.out ?_ ?_).mono ?_
      · go_simp
      · go_simp
      rintro e' w1 ⟨rfl, rfl⟩
      go_wp2_with fail
      go_ret
      (apply stepP_yes HR.out rfl; (focus (repeat (first | (with_reducible exact HK.out) | (with_reducible apply CkR.drew) | (with_reducible apply CkR.alloc) | (with_reducible apply CkR.drewN) | (with_reducible apply CkR.set_t0; any_goals (exact HI.out)) | (with_reducible apply CkR.set_t; any_goals (first | (exact HI.out) | decide)) | (with_reducible apply CkR.set_s0; any_goals (exact HA.out)) | (with_reducible apply CkR.set_s; any_goals (first | (exact HA.out) | decide)) | (with_reducible apply CkR.set_clock)))); (exact ⟨rfl, rfl⟩); ((try simp only [modify_modify]); exact map_modify' _ _ _ _ _ _ HG.out rfl); rfl; (repeat (first | (with_reducible exact HT1.out) | (with_reducible exact Turn.refl _ _) | (with_reducible refine Turn.drew ?_) | (with_reducible refine Turn.alloc ?_ _) | (with_reducible refine Turn.drewN ?_ _) | (with_reducible refine Turn.setCell ?_ (Or.inl (by simp)) _))))
    · have k2 : (t.at_ == 1) = false := by simpa using p2
      have HR : Hid (commitS s t ⟨kind, i, tx, at_, v, x, why⟩ = none) := hid (by unfold commitS; rw [if_neg (by dsimp only; omega), if_neg (by dsimp only; omega)])
      clear p1 p2
      (go_enter Tryz.func80, Tryz.ntmps80; go_wp2_with fail; go_quiet (fail); go_wp2_with fail; go_ret; exact stepP_no HR.out HH.out rfl (ext_drewN (by repeat (first | assumption | exact ext_refl _ | refine ext_drew ?_ | refine ext_alloc ?_ _ | refine ext_trans ?_ (by assumption))) _))
  have k1 : (v == 0) = false := by simpa using p1
  have k1' : (v != 0) = true := by simpa using p1
  by_cases p2 : t.at_ = 4
  case neg =>
    have k2 : (t.at_ == 4) = false := by simpa using p2
    have HR : Hid (commitS s t ⟨kind, i, tx, at_, v, x, why⟩ = none) := hid (by unfold commitS; rw [if_neg (by dsimp only; omega), if_neg (by dsimp only; omega)])
    clear p1 p2
    (go_enter Tryz.func80, Tryz.ntmps80; go_wp2_with fail; go_quiet (fail); go_wp2_with fail; go_ret; exact stepP_no HR.out HH.out rfl (ext_drewN (by repeat (first | assumption | exact ext_refl _ | refine ext_drew ?_ | refine ext_alloc ?_ _ | refine ext_trans ?_ (by assumption))) _))
  have k2 : (t.at_ == 4) = true := by simpa using p2
  by_cases p3 : t.check = 0
  case neg =>
    have k3 : ((t.check : Int) == 0) = false := by simp; exact p3
    have HR : Hid (commitS s t ⟨kind, i, tx, at_, v, x, why⟩ = none) := hid (by unfold commitS; rw [if_neg (by dsimp only; omega), if_neg (by dsimp only; omega)])
    clear p1 p2 p3
    (go_enter Tryz.func80, Tryz.ntmps80; go_wp2_with fail; go_quiet (fail); go_wp2_with fail; go_ret; exact stepP_no HR.out HH.out rfl (ext_drewN (by repeat (first | assumption | exact ext_refl _ | refine ext_drew ?_ | refine ext_alloc ?_ _ | refine ext_trans ?_ (by assumption))) _))
  have k3 : ((t.check : Int) == 0) = true := by simp [p3]
  by_cases p4 : v = t.wv
  case neg =>
    have k4 : (v == t.wv) = false := by simpa using p4
    have HR : Hid (commitS s t ⟨kind, i, tx, at_, v, x, why⟩ = none) := hid (by unfold commitS; rw [if_neg (by dsimp only; omega), if_neg (by dsimp only; omega)])
    clear p1 p2 p3 p4
    (go_enter Tryz.func80, Tryz.ntmps80; go_wp2_with fail; go_quiet (fail); go_wp2_with fail; go_ret; exact stepP_no HR.out HH.out rfl (ext_drewN (by repeat (first | assumption | exact ext_refl _ | refine ext_drew ?_ | refine ext_alloc ?_ _ | refine ext_trans ?_ (by assumption))) _))
  have k4 : (v == t.wv) = true := by simpa using p4
  have HR : Hid (commitS s t ⟨kind, i, tx, at_, v, x, why⟩ = some (s.setTh i { t with at_ := 5 })) := hid (by unfold commitS; rw [if_neg (by dsimp only; omega), if_pos ⟨p1, p2, p3, p4⟩])
  clear p1 p2 p3 p4
  go_enter Tryz.func80, Tryz.ntmps80
  go_wp2_with fail
  go_quiet (fail)
  go_wp2_with fail
  go_ret
  (apply stepP_yes HR.out rfl; (focus (repeat (first | (with_reducible exact HK.out) | (with_reducible apply CkR.drew) | (with_reducible apply CkR.alloc) | (with_reducible apply CkR.drewN) | (with_reducible apply CkR.set_t0; any_goals (exact HI.out)) | (with_reducible apply CkR.set_t; any_goals (first | (exact HI.out) | decide)) | (with_reducible apply CkR.set_s0; any_goals (exact HA.out)) | (with_reducible apply CkR.set_s; any_goals (first | (exact HA.out) | decide)) | (with_reducible apply CkR.set_clock)))); (exact ⟨rfl, rfl⟩); ((try simp only [modify_modify]); exact map_modify' _ _ _ _ _ _ HG.out rfl); rfl; (repeat (first | (with_reducible exact HT1.out) | (with_reducible exact Turn.refl _ _) | (with_reducible refine Turn.drew ?_) | (with_reducible refine Turn.alloc ?_ _) | (with_reducible refine Turn.drewN ?_ _) | (with_reducible refine Turn.setCell ?_ (Or.inl (by simp)) _))))
end
end Go.Proofs.YtnblhodhkifeeaaGreatDoor
/-
  The checker; walks: Store.
-/
namespace Go.Proofs.YtnblhodhkifeeaaGreatDoor
set_option linter.unusedVariables false
open Go Go.RowKit
theorem shr_bit (m q : Nat) (hm : m < 4294967296) : bits .and .u32 ((m : Int) / 2 ^ q) 1 = if m.testBit q then 1 else 0 := by
  have e : (m : Int) / 2 ^ q = ((m / 2 ^ q : Nat) : Int) := by
    rw [show ((2 : Int) ^ q) = ((2 ^ q : Nat) : Int) from (Int.natCast_pow 2 q).symm]; exact (Int.natCast_ediv m (2 ^ q)).symm
  have h1 : m / 2 ^ q < 4294967296 := Nat.lt_of_le_of_lt (Nat.div_le_self _ _) hm
  rw [e, show (1 : Int) = ((1 : Nat) : Int) from rfl, u32_and_nat _ 1 h1 (by omega), Nat.and_one_is_mod, Nat.testBit_eq_decide_div_mod_eq]
  have h2 : m / 2 ^ q % 2 = 0 ∨ m / 2 ^ q % 2 = 1 := by omega
  rcases h2 with h2 | h2 <;> simp [h2]
section
variable {w : World} {c tb sb : Nat} {s : Sh} {ev : Nat}
set_option maxRecDepth 100000 in
set_option maxHeartbeats 4000000 in
theorem store_any (h : CkAt w c tb sb s ev) (i : Nat) (hi : i < s.ths.length) {t : Th} (he : s.ths.getD i Th.zero = t) (hm1 : t.owned < 4294967296) (hm2 : t.stored < 4294967296) (a q : Nat) (hn : 1 ≤ s.sts.length) (hn32 : s.sts.length ≤ 32) (hq : (a : Int) % (s.sts.length : Int) = (q : Int)) (kind tx v x why : Int) :
    Calls Tryz.prog 81 #[.pointer (some ⟨c, 0, none⟩), .pointer (some ⟨tb, i * 13, none⟩), .agg #[.int .u8 kind, .int .i64 (i : Int), .int .i64 tx, .int .i64 (a : Int), .int .i64 v, .int .i64 x, .int .u8 why]] w
      (StepP w c tb sb s ev (storeS s t ⟨kind, i, tx, a, v, x, why⟩)) := by
  obtain ⟨c0, c1, c2, c3, c4⟩ := h.cells
  obtain ⟨t0, t1, t2, t3, t4, t5, t6, t7, t8, t9, t10, t11, t12⟩ := h.t hi he
  have f1 : w.frozen? ⟨c, 1, none⟩ = false := h.ck.free 1
  have ft0 : w.frozen? ⟨tb, i * 13, none⟩ = false := h.th.free _
  have ft3 : w.frozen? ⟨tb, i * 13 + 3, none⟩ = false := h.th.free _
  have ft4 : w.frozen? ⟨tb, i * 13 + 4, none⟩ = false := h.th.free _
  have ft5 : w.frozen? ⟨tb, i * 13 + 5, none⟩ = false := h.th.free _
  have ft6 : w.frozen? ⟨tb, i * 13 + 6, none⟩ = false := h.th.free _
  have ft7 : w.frozen? ⟨tb, i * 13 + 7, none⟩ = false := h.th.free _
  have ft8 : w.frozen? ⟨tb, i * 13 + 8, none⟩ = false := h.th.free _
  have ft9 : w.frozen? ⟨tb, i * 13 + 9, none⟩ = false := h.th.free _
  have ft10 : w.frozen? ⟨tb, i * 13 + 10, none⟩ = false := h.th.free _
  have ft11 : w.frozen? ⟨tb, i * 13 + 11, none⟩ = false := h.th.free _
  have ft12 : w.frozen? ⟨tb, i * 13 + 12, none⟩ = false := h.th.free _
  have hcl := lt_of_cell c0
  have htl := lt_of_cell t0
  have HH := hid h
  have HK : Hid (CkR w c tb sb s.ths.length s.sts.length s.vars s.clock ev (s.ths.map thL) (s.sts.map stL)) := hid h
  have HI := hid hi
  have hne := h.ne
  have HG : Hid (s.ths[i]? = some t) := hid (get_of_getD hi he)
  have HE := hid he
  have ga0 : (0 : Int) ≤ (a : Int) := by omega
  have gn : (1 : Int) ≤ (s.sts.length : Int) := by omega
  have gn2 : (0 : Int) < (s.sts.length : Int) := by omega
  have hq32 : q < 32 := by have := Int.emod_lt_of_pos (a : Int) gn2; omega
  have hmod : (a : Int).tmod (s.sts.length : Int) = (q : Int) := by rw [Int.tmod_eq_emod_of_nonneg ga0]; exact hq
  have gq0 : (0 : Int) ≤ (q : Int) := by omega
  have hor := or_bit t.stored q hm2 hq32
  have HQN : Hid (((a : Int) % s.n).toNat = q) := hid (by show ((a : Int) % (s.sts.length : Int)).toNat = q; omega)
  clear h he hi
  by_cases p1 : t.at_ = 5
  case neg =>
    have k1 : (t.at_ != 5) = true := by simpa using p1
    have HR := hid (show storeS s t ⟨kind, i, tx, a, v, x, why⟩ = none from if_neg (fun hh => p1 hh.1))
    clear p1
    go_enter Tryz.func81, Tryz.ntmps81
    go_wp2_with fail
    go_quiet (fail)
    go_wp2_with fail
    go_quiet (fail)
    go_wp2_with fail
    go_ret
    exact stepP_no HR.out HH.out rfl (ext_drewN (ext_drewN (by repeat (first | assumption | exact ext_refl _ | refine ext_drew ?_ | refine ext_alloc ?_ _ | refine ext_trans ?_ (by assumption))) _) _)
  have k1 : (t.at_ != 5) = false := by simpa using p1
  by_cases p2 : t.var < (a : Int)
  case neg =>
    have k2 : (a : Int) ≤ t.var := by omega
    have HR := hid (show storeS s t ⟨kind, i, tx, a, v, x, why⟩ = none from if_neg (fun hh => p2 hh.2.1))
    clear p1 p2
    go_enter Tryz.func81, Tryz.ntmps81
    go_wp2_with fail
    go_quiet (fail)
    go_wp2_with fail
    go_quiet (fail)
    go_wp2_with fail
    go_ret
    exact stepP_no HR.out HH.out rfl (ext_drewN (ext_drewN (by repeat (first | assumption | exact ext_refl _ | refine ext_drew ?_ | refine ext_alloc ?_ _ | refine ext_trans ?_ (by assumption))) _) _)
  have k2 : decide ((a : Int) ≤ t.var) = false := decide_eq_false (by omega)
  have hb := shr_bit t.owned q hm1
  by_cases p3 : t.owned.testBit q = true
  case neg =>
    rw [if_neg p3] at hb
    have HR := hid (show storeS s t ⟨kind, i, tx, a, v, x, why⟩ = none from if_neg (fun hh => p3 (by have := hh.2.2; rw [HQN.out] at this; exact this)))
    clear p1 p2 p3
    go_enter Tryz.func81, Tryz.ntmps81
    go_wp2_with fail
    go_quiet (fail)
    go_wp2_with fail
    go_quiet (fail)
    go_wp2_with fail
    go_ret
    exact stepP_no HR.out HH.out rfl (ext_drewN (ext_drewN (by repeat (first | assumption | exact ext_refl _ | refine ext_drew ?_ | refine ext_alloc ?_ _ | refine ext_trans ?_ (by assumption))) _) _)
  rw [if_pos p3] at hb
  have HR : Hid (storeS s t ⟨kind, i, tx, a, v, x, why⟩ = some (s.setTh i { t with var := a, stored := setb t.stored q })) := hid (by
    unfold storeS; rw [if_pos ⟨p1, p2, by dsimp only; rw [HQN.out]; exact p3⟩]; dsimp only; rw [HQN.out])
  clear p1 p2 p3
  go_enter Tryz.func81, Tryz.ntmps81
  go_wp2_with fail
  go_quiet (fail)
  go_wp2_with fail
  go_quiet (fail)
  go_wp2_with fail
  go_region
  all_goals (
    go_wp2_with fail
    go_ret
    (apply stepP_yes HR.out rfl; (focus (repeat (first | (with_reducible exact HK.out) | (with_reducible apply CkR.drew) | (with_reducible apply CkR.alloc) | (with_reducible apply CkR.drewN) | (with_reducible apply CkR.set_t0; any_goals (exact HI.out)) | (with_reducible apply CkR.set_t; any_goals (first | (exact HI.out) | decide)) | (with_reducible apply CkR.set_s0; any_goals (exact HA.out)) | (with_reducible apply CkR.set_s; any_goals (first | (exact HA.out) | decide)) | (with_reducible apply CkR.set_clock)))); (exact ⟨rfl, rfl⟩); ((try simp only [modify_modify]); exact map_modify' _ _ _ _ _ _ HG.out rfl); rfl; (repeat (first | (with_reducible exact HT1.out) | (with_reducible exact Turn.refl _ _) | (with_reducible refine Turn.drew ?_) | (with_reducible refine Turn.alloc ?_ _) | (with_reducible refine Turn.drewN ?_ _) | (with_reducible refine Turn.setCell ?_ (Or.inl (by simp)) _)))))
end
end Go.Proofs.YtnblhodhkifeeaaGreatDoor
/-
  The checker; walks: Free, Undo.
-/
namespace Go.Proofs.YtnblhodhkifeeaaGreatDoor
set_option linter.unusedVariables false
open Go Go.RowKit
section
variable {w : World} {c tb sb : Nat} {s : Sh} {ev : Nat}
set_option maxRecDepth 100000 in
set_option maxHeartbeats 4000000 in
theorem freed_any (h : CkAt w c tb sb s ev) (hT : TabOk w) (i : Nat) (hi : i < s.ths.length) {t : Th} (he : s.ths.getD i Th.zero = t) (hm : t.owned < 4294967296) (hcm : 0 ≤ t.commits ∧ t.commits ≤ 1000000000) (a : Nat) (ha : a < s.sts.length) (ha32 : a < 32) (kind tx v x why : Int) :
    Calls Tryz.prog 82 #[.pointer (some ⟨c, 0, none⟩), .pointer (some ⟨tb, i * 13, none⟩), .agg #[.int .u8 kind, .int .i64 (i : Int), .int .i64 tx, .int .i64 (a : Int), .int .i64 v, .int .i64 x, .int .u8 why]] w
      (StepP w c tb sb s ev (freedS s t ⟨kind, i, tx, a, v, x, why⟩)) := by
  obtain ⟨c0, c1, c2, c3, c4⟩ := h.cells
  obtain ⟨t0, t1, t2, t3, t4, t5, t6, t7, t8, t9, t10, t11, t12⟩ := h.t hi he
  have f1 : w.frozen? ⟨c, 1, none⟩ = false := h.ck.free 1
  have ft0 : w.frozen? ⟨tb, i * 13, none⟩ = false := h.th.free _
  have ft3 : w.frozen? ⟨tb, i * 13 + 3, none⟩ = false := h.th.free _
  have ft4 : w.frozen? ⟨tb, i * 13 + 4, none⟩ = false := h.th.free _
  have ft5 : w.frozen? ⟨tb, i * 13 + 5, none⟩ = false := h.th.free _
  have ft6 : w.frozen? ⟨tb, i * 13 + 6, none⟩ = false := h.th.free _
  have ft7 : w.frozen? ⟨tb, i * 13 + 7, none⟩ = false := h.th.free _
  have ft8 : w.frozen? ⟨tb, i * 13 + 8, none⟩ = false := h.th.free _
  have ft9 : w.frozen? ⟨tb, i * 13 + 9, none⟩ = false := h.th.free _
  have ft10 : w.frozen? ⟨tb, i * 13 + 10, none⟩ = false := h.th.free _
  have ft11 : w.frozen? ⟨tb, i * 13 + 11, none⟩ = false := h.th.free _
  have ft12 : w.frozen? ⟨tb, i * 13 + 12, none⟩ = false := h.th.free _
  have hcl := lt_of_cell c0
  have htl := lt_of_cell t0
  have HH := hid h
  have HK : Hid (CkR w c tb sb s.ths.length s.sts.length s.vars s.clock ev (s.ths.map thL) (s.sts.map stL)) := hid h
  have HI := hid hi
  have hne := h.ne
  have HG : Hid (s.ths[i]? = some t) := hid (get_of_getD hi he)
  have HE := hid he
  have s0 := (h.si ha).1
  have s1 := (h.si ha).2
  have fs0 : w.frozen? ⟨sb, a * 2, none⟩ = false := h.st.free _
  have fs1 : w.frozen? ⟨sb, a * 2 + 1, none⟩ = false := h.st.free _
  have ga0 : (0 : Int) ≤ (a : Int) := by omega
  have ga1 : (a : Int) < (s.sts.length : Int) := by omega
  have hsl := lt_of_cell s0
  have HA := hid ha
  have HQ : Hid (s.sts[a]? = some (s.own a, s.ver a)) := hid (get_of_getD ha rfl)
  have ft1 : w.frozen? ⟨tb, i * 13 + 1, none⟩ = false := h.th.free _
  have HCM := hid hcm
  have HL : Hid (∀ n, Calls Tryz.prog 133 #[.int .u32 (t.owned : Int)] ((w.alloc (.cells #[.int .u8 kind, .int .i64 (i : Int), .int .i64 tx, .int .i64 (a : Int), .int .i64 v, .int .i64 x, .int .u8 why] 50)).drewN n) fun e w' => e = .returned (.int .i64 (leastb t.owned : Int)) ∧ w' = (w.alloc (.cells #[.int .u8 kind, .int .i64 (i : Int), .int .i64 tx, .int .i64 (a : Int), .int .i64 v, .int .i64 x, .int .u8 why] 50)).drewN n) :=
    hid fun n => (least_any t.owned hm _ (hT.below (ext_drewN (ext_alloc (ext_refl _) _) n))).mono fun e w' ⟨h1, h2⟩ => ⟨h1, h2.symm⟩
  have HV : Hid (∀ n, Calls Tryz.prog 137 #[.pointer (some ⟨c, 0, none⟩), .pointer (some ⟨tb, i * 13, none⟩), .int .i64 (a : Int)] ((w.alloc (.cells #[.int .u8 kind, .int .i64 (i : Int), .int .i64 tx, .int .i64 (a : Int), .int .i64 v, .int .i64 x, .int .u8 why] 50)).drewN n) fun e w' => e = .returned (.tuple #[]) ∧ w' = ((((w.alloc (.cells #[.int .u8 kind, .int .i64 (i : Int), .int .i64 tx, .int .i64 (a : Int), .int .i64 v, .int .i64 x, .int .u8 why] 50)).drewN n).setCell ⟨tb, i * 13 + 7, none⟩ (.int .u32 ((clrb t.owned a : Nat) : Int))).setCell ⟨sb, a * 2, none⟩ (.int .i64 (-1))).drew) :=
    hid fun n => leave_any (s := s) (ev := ev) ((h.alloc _).drewN n) i hi he hm a ha ha32
  clear h hT he hi ha hcm
  by_cases p2 : a = leastb t.owned
  case neg =>
    have k5 : ((a : Int) != (leastb t.owned : Int)) = true := by simp; omega
    have HR := hid (show freedS s t ⟨kind, i, tx, a, v, x, why⟩ = none from if_neg (fun hh => p2 (by have := hh.2; dsimp only at this; omega)))
    by_cases q1 : t.at_ = 6
    · have k1 : (t.at_ != 6) = false := by simp [q1]
      clear q1 p2
      (go_enter Tryz.func82, Tryz.ntmps82; go_wp2_with fail; go_quiet ((go_at_call 133; exact Calls.quiet_of_same (HL.out _))); go_wp2_with fail; go_ret; exact stepP_no HR.out HH.out rfl (ext_drewN (by repeat (first | assumption | exact ext_refl _ | refine ext_drew ?_ | refine ext_alloc ?_ _ | refine ext_trans ?_ (by assumption))) _))
    have k1 : (t.at_ != 6) = true := by simpa using q1
    by_cases q2 : t.at_ = 5
    · have k2 : (t.at_ != 5) = false := by simp [q2]
      by_cases q3 : t.stored = t.owned
      · have k3 : ((t.stored : Int) != (t.owned : Int)) = false := by simp [q3]
        clear q1 q2 q3 p2
        (go_enter Tryz.func82, Tryz.ntmps82; go_wp2_with fail; go_quiet ((go_at_call 133; exact Calls.quiet_of_same (HL.out _))); go_wp2_with fail; go_ret; exact stepP_no HR.out HH.out rfl (ext_drewN (by repeat (first | assumption | exact ext_refl _ | refine ext_drew ?_ | refine ext_alloc ?_ _ | refine ext_trans ?_ (by assumption))) _))
      · have k3 : ((t.stored : Int) != (t.owned : Int)) = true := by simp; omega
        clear q1 q2 q3 p2
        (go_enter Tryz.func82, Tryz.ntmps82; go_wp2_with fail; go_quiet ((go_at_call 133; exact Calls.quiet_of_same (HL.out _))); go_wp2_with fail; go_ret; exact stepP_no HR.out HH.out rfl (ext_drewN (by repeat (first | assumption | exact ext_refl _ | refine ext_drew ?_ | refine ext_alloc ?_ _ | refine ext_trans ?_ (by assumption))) _))
    · have k2 : (t.at_ != 5) = true := by simpa using q2
      clear q1 q2 p2
      (go_enter Tryz.func82, Tryz.ntmps82; go_wp2_with fail; go_quiet ((go_at_call 133; exact Calls.quiet_of_same (HL.out _))); go_wp2_with fail; go_ret; exact stepP_no HR.out HH.out rfl (ext_drewN (by repeat (first | assumption | exact ext_refl _ | refine ext_drew ?_ | refine ext_alloc ?_ _ | refine ext_trans ?_ (by assumption))) _))
  have k5 : ((a : Int) != (leastb t.owned : Int)) = false := by simp; omega
  by_cases p1 : t.at_ = 6 ∨ (t.at_ = 5 ∧ t.stored = t.owned)
  case neg =>
    have HR := hid (show freedS s t ⟨kind, i, tx, a, v, x, why⟩ = none from if_neg (fun hh => p1 hh.1))
    have k1 : (t.at_ != 6) = true := by simp; omega
    by_cases q2 : t.at_ = 5
    · have k2 : (t.at_ != 5) = false := by simp [q2]
      have k3 : ((t.stored : Int) != (t.owned : Int)) = true := by simp; omega
      clear q2 p1 p2
      (go_enter Tryz.func82, Tryz.ntmps82; go_wp2_with fail; go_quiet ((go_at_call 133; exact Calls.quiet_of_same (HL.out _))); go_wp2_with fail; go_ret; exact stepP_no HR.out HH.out rfl (ext_drewN (by repeat (first | assumption | exact ext_refl _ | refine ext_drew ?_ | refine ext_alloc ?_ _ | refine ext_trans ?_ (by assumption))) _))
    · have k2 : (t.at_ != 5) = true := by simpa using q2
      clear q2 p1 p2
      (go_enter Tryz.func82, Tryz.ntmps82; go_wp2_with fail; go_quiet ((go_at_call 133; exact Calls.quiet_of_same (HL.out _))); go_wp2_with fail; go_ret; exact stepP_no HR.out HH.out rfl (ext_drewN (by repeat (first | assumption | exact ext_refl _ | refine ext_drew ?_ | refine ext_alloc ?_ _ | refine ext_trans ?_ (by assumption))) _))
  have HS := HQ
  have hc : ((t.at_ != 6) = false) ∨ ((t.at_ != 6) = true ∧ (t.at_ != 5) = false ∧ ((t.stored : Int) != (t.owned : Int)) = false) := by
    by_cases q : t.at_ = 6
    · left; simp [q]
    · right
      have : t.at_ = 5 ∧ t.stored = t.owned := by omega
      simp [this.1, this.2]
  by_cases pz : clrb t.owned a = 0
  · have kz : (((clrb t.owned a : Nat) : Int) == 0) = true := by simp [pz]
    have HR : Hid (freedS s t ⟨kind, i, tx, a, v, x, why⟩ = some ((s.setSt a (-1, t.wv)).setTh i { t with at_ := 0, owned := clrb t.owned a, commits := t.commits + 1 })) := hid (by
      unfold freedS; rw [if_pos ⟨p1, by dsimp only; omega⟩]
      simp only [Int.toNat_natCast, if_pos pz])
    clear p1 p2 pz
    rcases hc with k1 | ⟨k1, k2, k3⟩
    all_goals (
      go_enter Tryz.func82, Tryz.ntmps82
      go_wp2_with fail
      go_quiet ((go_at_call 133; exact Calls.quiet_of_same (HL.out _)))
      go_wp2_with fail
      refine (HV.out _).mono ?_
      rintro e' w1 ⟨rfl, rfl⟩
      go_wp2_with fail
      go_region
      all_goals (
        go_wp2_with fail
        refine (ends_any tb (i * 13) t.commits 6 _ ?_ ?_ HCM.out ?_ ?_).mono ?_
        · go_simp
        · go_simp
        · go_simp
        · go_simp
        rintro e' w1 ⟨rfl, rfl⟩
        go_wp2_with fail
        go_ret
        (apply stepP_yes HR.out rfl; (focus (repeat (first | (with_reducible exact HK.out) | (with_reducible apply CkR.drew) | (with_reducible apply CkR.alloc) | (with_reducible apply CkR.drewN) | (with_reducible apply CkR.set_t0; any_goals (exact HI.out)) | (with_reducible apply CkR.set_t; any_goals (first | (exact HI.out) | decide)) | (with_reducible apply CkR.set_s0; any_goals (exact HA.out)) | (with_reducible apply CkR.set_s; any_goals (first | (exact HA.out) | decide)) | (with_reducible apply CkR.set_clock)))); (exact ⟨rfl, rfl⟩); ((try simp only [modify_modify]); exact map_modify' _ _ _ _ _ _ HG.out rfl); ((try simp only [modify_modify]); exact map_modify' _ _ _ _ _ _ HS.out rfl); (repeat (first | (with_reducible exact HT1.out) | (with_reducible exact Turn.refl _ _) | (with_reducible refine Turn.drew ?_) | (with_reducible refine Turn.alloc ?_ _) | (with_reducible refine Turn.drewN ?_ _) | (with_reducible refine Turn.setCell ?_ (Or.inl (by simp)) _))))))
  · have kz : (((clrb t.owned a : Nat) : Int) == 0) = false := by simp; exact pz
    have HR : Hid (freedS s t ⟨kind, i, tx, a, v, x, why⟩ = some ((s.setSt a (-1, t.wv)).setTh i { t with at_ := 6, owned := clrb t.owned a })) := hid (by
      unfold freedS; rw [if_pos ⟨p1, by dsimp only; omega⟩]
      simp only [Int.toNat_natCast, if_neg pz])
    clear p1 p2 pz
    rcases hc with k1 | ⟨k1, k2, k3⟩
    all_goals (
      go_enter Tryz.func82, Tryz.ntmps82
      go_wp2_with fail
      go_quiet ((go_at_call 133; exact Calls.quiet_of_same (HL.out _)))
      go_wp2_with fail
      refine (HV.out _).mono ?_
      rintro e' w1 ⟨rfl, rfl⟩
      go_wp2_with fail
      go_region
      all_goals (
        go_wp2_with fail
        go_ret
        (apply stepP_yes HR.out rfl; (focus (repeat (first | (with_reducible exact HK.out) | (with_reducible apply CkR.drew) | (with_reducible apply CkR.alloc) | (with_reducible apply CkR.drewN) | (with_reducible apply CkR.set_t0; any_goals (exact HI.out)) | (with_reducible apply CkR.set_t; any_goals (first | (exact HI.out) | decide)) | (with_reducible apply CkR.set_s0; any_goals (exact HA.out)) | (with_reducible apply CkR.set_s; any_goals (first | (exact HA.out) | decide)) | (with_reducible apply CkR.set_clock)))); (exact ⟨rfl, rfl⟩); ((try simp only [modify_modify]); exact map_modify' _ _ _ _ _ _ HG.out rfl); ((try simp only [modify_modify]); exact map_modify' _ _ _ _ _ _ HS.out rfl); (repeat (first | (with_reducible exact HT1.out) | (with_reducible exact Turn.refl _ _) | (with_reducible refine Turn.drew ?_) | (with_reducible refine Turn.alloc ?_ _) | (with_reducible refine Turn.drewN ?_ _) | (with_reducible refine Turn.setCell ?_ (Or.inl (by simp)) _))))))
set_option maxRecDepth 100000 in
set_option maxHeartbeats 4000000 in
theorem undo_any (h : CkAt w c tb sb s ev) (hT : TabOk w) (i : Nat) (hi : i < s.ths.length) {t : Th} (he : s.ths.getD i Th.zero = t) (hm : t.owned < 4294967296) (a : Nat) (ha : a < s.sts.length) (ha32 : a < 32) (kind tx v x why : Int) :
    Calls Tryz.prog 84 #[.pointer (some ⟨c, 0, none⟩), .pointer (some ⟨tb, i * 13, none⟩), .agg #[.int .u8 kind, .int .i64 (i : Int), .int .i64 tx, .int .i64 (a : Int), .int .i64 v, .int .i64 x, .int .u8 why]] w
      (StepP w c tb sb s ev (undoS s t ⟨kind, i, tx, a, v, x, why⟩)) := by
  obtain ⟨c0, c1, c2, c3, c4⟩ := h.cells
  obtain ⟨t0, t1, t2, t3, t4, t5, t6, t7, t8, t9, t10, t11, t12⟩ := h.t hi he
  have f1 : w.frozen? ⟨c, 1, none⟩ = false := h.ck.free 1
  have ft0 : w.frozen? ⟨tb, i * 13, none⟩ = false := h.th.free _
  have ft3 : w.frozen? ⟨tb, i * 13 + 3, none⟩ = false := h.th.free _
  have ft4 : w.frozen? ⟨tb, i * 13 + 4, none⟩ = false := h.th.free _
  have ft5 : w.frozen? ⟨tb, i * 13 + 5, none⟩ = false := h.th.free _
  have ft6 : w.frozen? ⟨tb, i * 13 + 6, none⟩ = false := h.th.free _
  have ft7 : w.frozen? ⟨tb, i * 13 + 7, none⟩ = false := h.th.free _
  have ft8 : w.frozen? ⟨tb, i * 13 + 8, none⟩ = false := h.th.free _
  have ft9 : w.frozen? ⟨tb, i * 13 + 9, none⟩ = false := h.th.free _
  have ft10 : w.frozen? ⟨tb, i * 13 + 10, none⟩ = false := h.th.free _
  have ft11 : w.frozen? ⟨tb, i * 13 + 11, none⟩ = false := h.th.free _
  have ft12 : w.frozen? ⟨tb, i * 13 + 12, none⟩ = false := h.th.free _
  have hcl := lt_of_cell c0
  have htl := lt_of_cell t0
  have HH := hid h
  have HK : Hid (CkR w c tb sb s.ths.length s.sts.length s.vars s.clock ev (s.ths.map thL) (s.sts.map stL)) := hid h
  have HI := hid hi
  have hne := h.ne
  have HG : Hid (s.ths[i]? = some t) := hid (get_of_getD hi he)
  have HE := hid he
  have s0 := (h.si ha).1
  have s1 := (h.si ha).2
  have fs0 : w.frozen? ⟨sb, a * 2, none⟩ = false := h.st.free _
  have fs1 : w.frozen? ⟨sb, a * 2 + 1, none⟩ = false := h.st.free _
  have ga0 : (0 : Int) ≤ (a : Int) := by omega
  have ga1 : (a : Int) < (s.sts.length : Int) := by omega
  have hsl := lt_of_cell s0
  have HA := hid ha
  have HQ : Hid (s.sts[a]? = some (s.own a, s.ver a)) := hid (get_of_getD ha rfl)
  have HL : Hid (∀ n, Calls Tryz.prog 133 #[.int .u32 (t.owned : Int)] ((w.alloc (.cells #[.int .u8 kind, .int .i64 (i : Int), .int .i64 tx, .int .i64 (a : Int), .int .i64 v, .int .i64 x, .int .u8 why] 50)).drewN n) fun e w' => e = .returned (.int .i64 (leastb t.owned : Int)) ∧ w' = (w.alloc (.cells #[.int .u8 kind, .int .i64 (i : Int), .int .i64 tx, .int .i64 (a : Int), .int .i64 v, .int .i64 x, .int .u8 why] 50)).drewN n) :=
    hid fun n => (least_any t.owned hm _ (hT.below (ext_drewN (ext_alloc (ext_refl _) _) n))).mono fun e w' ⟨h1, h2⟩ => ⟨h1, h2.symm⟩
  have HV : Hid (∀ n, Calls Tryz.prog 137 #[.pointer (some ⟨c, 0, none⟩), .pointer (some ⟨tb, i * 13, none⟩), .int .i64 (a : Int)] ((w.alloc (.cells #[.int .u8 kind, .int .i64 (i : Int), .int .i64 tx, .int .i64 (a : Int), .int .i64 v, .int .i64 x, .int .u8 why] 50)).drewN n) fun e w' => e = .returned (.tuple #[]) ∧ w' = ((((w.alloc (.cells #[.int .u8 kind, .int .i64 (i : Int), .int .i64 tx, .int .i64 (a : Int), .int .i64 v, .int .i64 x, .int .u8 why] 50)).drewN n).setCell ⟨tb, i * 13 + 7, none⟩ (.int .u32 ((clrb t.owned a : Nat) : Int))).setCell ⟨sb, a * 2, none⟩ (.int .i64 (-1))).drew) :=
    hid fun n => leave_any (s := s) (ev := ev) ((h.alloc _).drewN n) i hi he hm a ha ha32
  clear h hT he hi ha
  by_cases p1 : t.at_ = 7
  case neg =>
    have k1 : (t.at_ != 7) = true := by simpa using p1
    have HR := hid (show undoS s t ⟨kind, i, tx, a, v, x, why⟩ = none from if_neg (fun hh => p1 hh.1))
    clear p1
    (go_enter Tryz.func84, Tryz.ntmps84; go_wp2_with fail; go_quiet (fail); go_wp2_with fail; go_ret; exact stepP_no HR.out HH.out rfl (ext_drewN (by repeat (first | assumption | exact ext_refl _ | refine ext_drew ?_ | refine ext_alloc ?_ _ | refine ext_trans ?_ (by assumption))) _))
  have k1 : (t.at_ != 7) = false := by simpa using p1
  by_cases p2 : a = leastb t.owned
  case neg =>
    have k5 : ((a : Int) != (leastb t.owned : Int)) = true := by simp; omega
    have HR := hid (show undoS s t ⟨kind, i, tx, a, v, x, why⟩ = none from if_neg (fun hh => p2 (by have := hh.2; dsimp only at this; omega)))
    clear p1 p2
    (go_enter Tryz.func84, Tryz.ntmps84; go_wp2_with fail; go_quiet ((go_at_call 133; exact Calls.quiet_of_same (HL.out _))); go_wp2_with fail; go_ret; exact stepP_no HR.out HH.out rfl (ext_drewN (by repeat (first | assumption | exact ext_refl _ | refine ext_drew ?_ | refine ext_alloc ?_ _ | refine ext_trans ?_ (by assumption))) _))
  have k5 : ((a : Int) != (leastb t.owned : Int)) = false := by simp; omega
  have HS := HQ
  by_cases pz : clrb t.owned a = 0
  · have kz : (((clrb t.owned a : Nat) : Int) == 0) = true := by simp [pz]
    cases hf : t.full
    · rw [hf] at t12
      have HR : Hid (undoS s t ⟨kind, i, tx, a, v, x, why⟩ = some ((s.setSt a (-1, s.ver a)).setTh i { t with at_ := 0, owned := clrb t.owned a })) := hid (by
        unfold undoS; rw [if_pos ⟨p1, by dsimp only; omega⟩]
        simp only [Int.toNat_natCast, if_pos pz, hf]; rfl)
      clear p1 p2 pz hf
      go_enter Tryz.func84, Tryz.ntmps84
      go_wp2_with fail
      go_quiet ((go_at_call 133; exact Calls.quiet_of_same (HL.out _)))
      go_wp2_with fail
      refine (HV.out _).mono ?_
      rintro e' w1 ⟨rfl, rfl⟩
      go_wp2_with fail
      go_ret
      (apply stepP_yes HR.out rfl; (focus (repeat (first | (with_reducible exact HK.out) | (with_reducible apply CkR.drew) | (with_reducible apply CkR.alloc) | (with_reducible apply CkR.drewN) | (with_reducible apply CkR.set_t0; any_goals (exact HI.out)) | (with_reducible apply CkR.set_t; any_goals (first | (exact HI.out) | decide)) | (with_reducible apply CkR.set_s0; any_goals (exact HA.out)) | (with_reducible apply CkR.set_s; any_goals (first | (exact HA.out) | decide)) | (with_reducible apply CkR.set_clock)))); (exact ⟨rfl, rfl⟩); ((try simp only [modify_modify]); exact map_modify' _ _ _ _ _ _ HG.out rfl); ((try simp only [modify_modify]); exact map_modify' _ _ _ _ _ _ HS.out rfl); (repeat (first | (with_reducible exact HT1.out) | (with_reducible exact Turn.refl _ _) | (with_reducible refine Turn.drew ?_) | (with_reducible refine Turn.alloc ?_ _) | (with_reducible refine Turn.drewN ?_ _) | (with_reducible refine Turn.setCell ?_ (Or.inl (by simp)) _))))
    · rw [hf] at t12
      have HR : Hid (undoS s t ⟨kind, i, tx, a, v, x, why⟩ = some ((s.setSt a (-1, s.ver a)).setTh i { t with at_ := 9, owned := clrb t.owned a })) := hid (by
        unfold undoS; rw [if_pos ⟨p1, by dsimp only; omega⟩]
        simp only [Int.toNat_natCast, if_pos pz, hf]; rfl)
      clear p1 p2 pz hf
      go_enter Tryz.func84, Tryz.ntmps84
      go_wp2_with fail
      go_quiet ((go_at_call 133; exact Calls.quiet_of_same (HL.out _)))
      go_wp2_with fail
      refine (HV.out _).mono ?_
      rintro e' w1 ⟨rfl, rfl⟩
      go_wp2_with fail
      go_ret
      (apply stepP_yes HR.out rfl; (focus (repeat (first | (with_reducible exact HK.out) | (with_reducible apply CkR.drew) | (with_reducible apply CkR.alloc) | (with_reducible apply CkR.drewN) | (with_reducible apply CkR.set_t0; any_goals (exact HI.out)) | (with_reducible apply CkR.set_t; any_goals (first | (exact HI.out) | decide)) | (with_reducible apply CkR.set_s0; any_goals (exact HA.out)) | (with_reducible apply CkR.set_s; any_goals (first | (exact HA.out) | decide)) | (with_reducible apply CkR.set_clock)))); (exact ⟨rfl, rfl⟩); ((try simp only [modify_modify]); exact map_modify' _ _ _ _ _ _ HG.out rfl); ((try simp only [modify_modify]); exact map_modify' _ _ _ _ _ _ HS.out rfl); (repeat (first | (with_reducible exact HT1.out) | (with_reducible exact Turn.refl _ _) | (with_reducible refine Turn.drew ?_) | (with_reducible refine Turn.alloc ?_ _) | (with_reducible refine Turn.drewN ?_ _) | (with_reducible refine Turn.setCell ?_ (Or.inl (by simp)) _))))
  · have kz : (((clrb t.owned a : Nat) : Int) == 0) = false := by simp; exact pz
    have HR : Hid (undoS s t ⟨kind, i, tx, a, v, x, why⟩ = some ((s.setSt a (-1, s.ver a)).setTh i { t with at_ := 7, owned := clrb t.owned a })) := hid (by
      unfold undoS; rw [if_pos ⟨p1, by dsimp only; omega⟩]
      simp only [Int.toNat_natCast, if_neg pz])
    have HGA : Hid (t.at_ = 7) := hid p1
    clear p1 p2 pz
    go_enter Tryz.func84, Tryz.ntmps84
    go_wp2_with fail
    go_quiet ((go_at_call 133; exact Calls.quiet_of_same (HL.out _)))
    go_wp2_with fail
    refine (HV.out _).mono ?_
    rintro e' w1 ⟨rfl, rfl⟩
    go_wp2_with fail
    go_ret
    (apply stepP_yes HR.out rfl; (focus (repeat (first | (with_reducible exact HK.out) | (with_reducible apply CkR.drew) | (with_reducible apply CkR.alloc) | (with_reducible apply CkR.drewN) | (with_reducible apply CkR.set_t0; any_goals (exact HI.out)) | (with_reducible apply CkR.set_t; any_goals (first | (exact HI.out) | decide)) | (with_reducible apply CkR.set_s0; any_goals (exact HA.out)) | (with_reducible apply CkR.set_s; any_goals (first | (exact HA.out) | decide)) | (with_reducible apply CkR.set_clock)))); (exact ⟨rfl, rfl⟩); ((try simp only [modify_modify]); exact map_modify' _ _ _ _ _ _ HG.out (by show List.set (thL t) 7 _ = _; unfold thL; rw [HGA.out]; rfl)); ((try simp only [modify_modify]); exact map_modify' _ _ _ _ _ _ HS.out rfl); (repeat (first | (with_reducible exact HT1.out) | (with_reducible exact Turn.refl _ _) | (with_reducible refine Turn.drew ?_) | (with_reducible refine Turn.alloc ?_ _) | (with_reducible refine Turn.drewN ?_ _) | (with_reducible refine Turn.setCell ?_ (Or.inl (by simp)) _))))
end
end Go.Proofs.YtnblhodhkifeeaaGreatDoor
/-
  The checker; walks: Check.
-/
namespace Go.Proofs.YtnblhodhkifeeaaGreatDoor
set_option linter.unusedVariables false
open Go Go.RowKit
section
variable {w : World} {c tb sb : Nat} {s : Sh} {ev : Nat}
theorem checked_head (h : CkAt w c tb sb s ev) (i : Nat) (hi : i < s.ths.length) {t : Th} (he : s.ths.getD i Th.zero = t) (a : Nat) (ha : a < s.sts.length) (kind tx v x why : Int) (b1 b2 : Bool) (e1 : s.oth a i = b1) (e2 : decide (t.rv < s.ver a) = b2) :
    (∀ W, Below w.heap.size w W → Calls Tryz.prog 134 #[.pointer (some ⟨c, 0, none⟩), .int .i64 (a : Int), .agg #[.int .u8 kind, .int .i64 (i : Int), .int .i64 tx, .int .i64 (a : Int), .int .i64 v, .int .i64 x, .int .u8 why]] W fun e w' => e = .returned (.bool b1) ∧ Below W.heap.size W w') ∧
    (∀ W, Below w.heap.size w W → Calls Tryz.prog 135 #[.pointer (some ⟨c, 0, none⟩), .int .i64 (a : Int), .pointer (some ⟨tb, i * 13, none⟩)] W fun e w' => e = .returned (.bool b2) ∧ ∃ n, w' = W.drewN n) := by
  subst e1; subst e2
  exact ⟨fun W hW => others_any (s := s) (ev := ev) (CkR.below h hW) a ha kind i tx a v x why, fun W hW => newer_any (s := s) (ev := ev) (CkR.below h hW) a ha hi he⟩
set_option maxRecDepth 100000 in
set_option maxHeartbeats 4000000 in
theorem checked_any (h : CkAt w c tb sb s ev) (hT : TabOk w) (i : Nat) (hi : i < s.ths.length) {t : Th} (he : s.ths.getD i Th.zero = t) (hm : t.check < 4294967296) (a : Nat) (ha : a < s.sts.length) (ha32 : a < 32) (kind tx v x why : Int) :
    Calls Tryz.prog 79 #[.pointer (some ⟨c, 0, none⟩), .pointer (some ⟨tb, i * 13, none⟩), .agg #[.int .u8 kind, .int .i64 (i : Int), .int .i64 tx, .int .i64 (a : Int), .int .i64 v, .int .i64 x, .int .u8 why]] w
      (StepP w c tb sb s ev (checkS s t ⟨kind, i, tx, a, v, x, why⟩)) := by
  obtain ⟨c0, c1, c2, c3, c4⟩ := h.cells
  obtain ⟨t0, t1, t2, t3, t4, t5, t6, t7, t8, t9, t10, t11, t12⟩ := h.t hi he
  have f1 : w.frozen? ⟨c, 1, none⟩ = false := h.ck.free 1
  have ft0 : w.frozen? ⟨tb, i * 13, none⟩ = false := h.th.free _
  have ft3 : w.frozen? ⟨tb, i * 13 + 3, none⟩ = false := h.th.free _
  have ft4 : w.frozen? ⟨tb, i * 13 + 4, none⟩ = false := h.th.free _
  have ft5 : w.frozen? ⟨tb, i * 13 + 5, none⟩ = false := h.th.free _
  have ft6 : w.frozen? ⟨tb, i * 13 + 6, none⟩ = false := h.th.free _
  have ft7 : w.frozen? ⟨tb, i * 13 + 7, none⟩ = false := h.th.free _
  have ft8 : w.frozen? ⟨tb, i * 13 + 8, none⟩ = false := h.th.free _
  have ft9 : w.frozen? ⟨tb, i * 13 + 9, none⟩ = false := h.th.free _
  have ft10 : w.frozen? ⟨tb, i * 13 + 10, none⟩ = false := h.th.free _
  have ft11 : w.frozen? ⟨tb, i * 13 + 11, none⟩ = false := h.th.free _
  have ft12 : w.frozen? ⟨tb, i * 13 + 12, none⟩ = false := h.th.free _
  have hcl := lt_of_cell c0
  have htl := lt_of_cell t0
  have HH := hid h
  have HK : Hid (CkR w c tb sb s.ths.length s.sts.length s.vars s.clock ev (s.ths.map thL) (s.sts.map stL)) := hid h
  have HI := hid hi
  have hne := h.ne
  have HG : Hid (s.ths[i]? = some t) := hid (get_of_getD hi he)
  have HE := hid he
  have s0 := (h.si ha).1
  have s1 := (h.si ha).2
  have fs0 : w.frozen? ⟨sb, a * 2, none⟩ = false := h.st.free _
  have fs1 : w.frozen? ⟨sb, a * 2 + 1, none⟩ = false := h.st.free _
  have ga0 : (0 : Int) ≤ (a : Int) := by omega
  have ga1 : (a : Int) < (s.sts.length : Int) := by omega
  have hsl := lt_of_cell s0
  have HA := hid ha
  have HQ : Hid (s.sts[a]? = some (s.own a, s.ver a)) := hid (get_of_getD ha rfl)
  have HL : Hid (∀ n, Calls Tryz.prog 133 #[.int .u32 (t.check : Int)] ((w.alloc (.cells #[.int .u8 kind, .int .i64 (i : Int), .int .i64 tx, .int .i64 (a : Int), .int .i64 v, .int .i64 x, .int .u8 why] 50)).drewN n) fun e w' => e = .returned (.int .i64 (leastb t.check : Int)) ∧ w' = (w.alloc (.cells #[.int .u8 kind, .int .i64 (i : Int), .int .i64 tx, .int .i64 (a : Int), .int .i64 v, .int .i64 x, .int .u8 why] 50)).drewN n) :=
    hid fun n => (least_any t.check hm _ (hT.below (ext_drewN (ext_alloc (ext_refl _) _) n))).mono fun e w' ⟨h1, h2⟩ => ⟨h1, h2.symm⟩
  have HL2 := hid fun W (hW : Below w.heap.size w W) => least_any t.check hm W (hT.below hW)
  have hcb := clr_bit t.check a hm ha32
  have HX := fun b1 b2 e1 e2 => checked_head h i hi he a ha kind tx v x why b1 b2 e1 e2
  clear h hT he hi ha
  by_cases p1 : t.at_ = 4
  case neg =>
    have k1 : (t.at_ != 4) = true := by simpa using p1
    have HR := hid (show checkS s t ⟨kind, i, tx, a, v, x, why⟩ = none from if_neg (fun hh => p1 hh.1))
    clear p1 HX
    (go_enter Tryz.func79, Tryz.ntmps79; go_wp2_with fail; go_quiet (fail); go_wp2_with fail; go_ret; exact stepP_no HR.out HH.out rfl (ext_drewN (by repeat (first | assumption | exact ext_refl _ | refine ext_drew ?_ | refine ext_alloc ?_ _ | refine ext_trans ?_ (by assumption))) _))
  have k1 : (t.at_ != 4) = false := by simpa using p1
  by_cases p2 : a = leastb t.check
  case neg =>
    have k5 : ((a : Int) != (leastb t.check : Int)) = true := by simp; omega
    have HR := hid (show checkS s t ⟨kind, i, tx, a, v, x, why⟩ = none from if_neg (fun hh => p2 (by have := hh.2.1; dsimp only at this; omega)))
    clear p1 p2 HX
    (go_enter Tryz.func79, Tryz.ntmps79; go_wp2_with fail; go_quiet ((go_at_call 133; exact Calls.quiet_of_same (HL.out _))); go_wp2_with fail; go_ret; exact stepP_no HR.out HH.out rfl (ext_drewN (by repeat (first | assumption | exact ext_refl _ | refine ext_drew ?_ | refine ext_alloc ?_ _ | refine ext_trans ?_ (by assumption))) _))
  have k5 : ((a : Int) != (leastb t.check : Int)) = false := by simp; omega
  cases e1 : s.oth a i with
  | true =>
    have HO := hid (HX true _ e1 rfl).1
    have HR := hid (show checkS s t ⟨kind, i, tx, a, v, x, why⟩ = none from if_neg (fun hh => by have := hh.2.2.1; dsimp only at this; rw [e1] at this; cases this))
    clear p1 p2 HX e1
    go_enter Tryz.func79, Tryz.ntmps79
    go_wp2_with fail
    have b0 := (Blk.new w #[.int .u8 kind, .int .i64 (i : Int), .int .i64 tx, .int .i64 (a : Int), .int .i64 v, .int .i64 x, .int .u8 why] 50)
    apply wp_region_vals' [.pointer (some ⟨tb, i * 13, none⟩), .pointer (some ⟨tb, i * 13, none⟩), .pointer (some ⟨tb, i * 13, none⟩), .int .i64 t.at_, .bool false, .bool false, .pointer (some ⟨w.heap.size, 3, none⟩), .int .i64 (a : Int), .pointer (some ⟨tb, i * 13, none⟩), .pointer (some ⟨tb, i * 13, none⟩), .pointer (some ⟨tb, i * 13 + 9, none⟩), .int .u32 (t.check : Int), .int .i64 (leastb t.check : Int), .bool false, .bool false, .bool false, .pointer (some ⟨c, 0, none⟩), .pointer (some ⟨w.heap.size, 3, none⟩), .int .i64 (a : Int), .agg #[.int .u8 kind, .int .i64 (i : Int), .int .i64 tx, .int .i64 (a : Int), .int .i64 v, .int .i64 x, .int .u8 why], .bool true, .bool true, .bool true, undef, undef, undef, undef, undef, .bool true] (fun w' => Below (w.alloc (.cells #[.int .u8 kind, .int .i64 (i : Int), .int .i64 tx, .int .i64 (a : Int), .int .i64 v, .int .i64 x, .int .u8 why] 50)).heap.size (w.alloc (.cells #[.int .u8 kind, .int .i64 (i : Int), .int .i64 tx, .int .i64 (a : Int), .int .i64 v, .int .i64 x, .int .u8 why] 50)) w')
    focus (simp [putAll, dstOf, Act.put, List.getD]; rfl)
    case hm => kernel_rfl
    case hd => kernel_rfl
    case hb => kernel_rfl
    case hdep => kernel_rfl
    case hsel => kernel_rfl
    case hsz => kernel_rfl
    case h0 => exact ext_drew (ext_refl _)
    case hstep =>
      repeat' (first | exact trivial | (refine And.intro ?_ ?_))
      all_goals (
        intro w' hG
        first
        | (rw [if_neg (ne_true_of_eq_false (by kernel_rfl))]; rfl)
        | (rw [if_pos (by kernel_rfl)]
           intro K Qp hK
           have d0 := later hG (cell_alloc t0)
           have d9 := later hG (cell_alloc t9)
           have d10 := later hG (b0.cell 0 rfl)
           have d11 := later hG (b0.cell 1 rfl)
           have d12 := later hG (b0.cell 2 rfl)
           have d13 := later hG (b0.cell 3 rfl)
           have d14 := later hG (b0.cell 4 rfl)
           have d15 := later hG (b0.cell 5 rfl)
           have d16 := later hG (b0.cell 6 rfl)
           have hb0 : Below w.heap.size w w' := ext_trans (ext_alloc (ext_refl _) _) hG
           have HB0 := hid hb0
           have HGG := hid hG
           clear hb0 hG c0 c1 c2 c3 c4 t0 t1 t2 t3 t4 t5 t6 t7 t8 t9 t10 t11 t12 f1 ft0 ft3 ft4 ft5 ft6 ft7 ft8 ft9 ft10 ft11 ft12 s0 s1 fs0 fs1 b0
           go_simp
           first
           | exact hK _ HGG.out
           | (go_wp2_with (first | ((with_reducible refine (HL2.out _ HB0.out).mono ?_); rintro e' w1 ⟨rfl, rfl⟩) | ((with_reducible refine (HO.out _ HB0.out).mono ?_); rintro e' w1 ⟨rfl, hb1⟩))
              first | (with_reducible exact HGG.out) | exact ext_trans HGG.out hb1 | exact ext_drewN HGG.out _ | exact hK _ HGG.out | exact hK _ (ext_trans HGG.out hb1) | exact hK _ (ext_drewN HGG.out _))))
    case hdone =>
      intro w' hG
      have hb1 : Below w.heap.size w w' := ext_trans (ext_alloc (ext_refl _) _) hG
      clear hG
      go_wp2_with fail
      go_ret
      exact stepP_no HR.out HH.out rfl hb1
  | false =>
    by_cases p3 : t.rv < s.ver a
    · have HO := hid (HX false true e1 (decide_eq_true p3)).1
      have HN := hid (HX false true e1 (decide_eq_true p3)).2
      have HR := hid (show checkS s t ⟨kind, i, tx, a, v, x, why⟩ = none from if_neg (fun hh => by have := hh.2.2.2; dsimp only at this; omega))
      clear p1 p2 HX e1 p3
      go_enter Tryz.func79, Tryz.ntmps79
      go_wp2_with fail
      have b0 := (Blk.new w #[.int .u8 kind, .int .i64 (i : Int), .int .i64 tx, .int .i64 (a : Int), .int .i64 v, .int .i64 x, .int .u8 why] 50)
      apply wp_region_vals' [.pointer (some ⟨tb, i * 13, none⟩), .pointer (some ⟨tb, i * 13, none⟩), .pointer (some ⟨tb, i * 13, none⟩), .int .i64 t.at_, .bool false, .bool false, .pointer (some ⟨w.heap.size, 3, none⟩), .int .i64 (a : Int), .pointer (some ⟨tb, i * 13, none⟩), .pointer (some ⟨tb, i * 13, none⟩), .pointer (some ⟨tb, i * 13 + 9, none⟩), .int .u32 (t.check : Int), .int .i64 (leastb t.check : Int), .bool false, .bool false, .bool false, .pointer (some ⟨c, 0, none⟩), .pointer (some ⟨w.heap.size, 3, none⟩), .int .i64 (a : Int), .agg #[.int .u8 kind, .int .i64 (i : Int), .int .i64 tx, .int .i64 (a : Int), .int .i64 v, .int .i64 x, .int .u8 why], .bool false, .bool false, .bool false, .pointer (some ⟨c, 0, none⟩), .pointer (some ⟨w.heap.size, 3, none⟩), .int .i64 (a : Int), .pointer (some ⟨tb, i * 13, none⟩), .bool true, .bool true] (fun w' => Below (w.alloc (.cells #[.int .u8 kind, .int .i64 (i : Int), .int .i64 tx, .int .i64 (a : Int), .int .i64 v, .int .i64 x, .int .u8 why] 50)).heap.size (w.alloc (.cells #[.int .u8 kind, .int .i64 (i : Int), .int .i64 tx, .int .i64 (a : Int), .int .i64 v, .int .i64 x, .int .u8 why] 50)) w')
      focus (simp [putAll, dstOf, Act.put, List.getD]; rfl)
      case hm => kernel_rfl
      case hd => kernel_rfl
      case hb => kernel_rfl
      case hdep => kernel_rfl
      case hsel => kernel_rfl
      case hsz => kernel_rfl
      case h0 => exact ext_drew (ext_refl _)
      case hstep =>
        repeat' (first | exact trivial | (refine And.intro ?_ ?_))
        all_goals (
          intro w' hG
          first
          | (rw [if_neg (ne_true_of_eq_false (by kernel_rfl))]; rfl)
          | (rw [if_pos (by kernel_rfl)]
             intro K Qp hK
             have d0 := later hG (cell_alloc t0)
             have d9 := later hG (cell_alloc t9)
             have d10 := later hG (b0.cell 0 rfl)
             have d11 := later hG (b0.cell 1 rfl)
             have d12 := later hG (b0.cell 2 rfl)
             have d13 := later hG (b0.cell 3 rfl)
             have d14 := later hG (b0.cell 4 rfl)
             have d15 := later hG (b0.cell 5 rfl)
             have d16 := later hG (b0.cell 6 rfl)
             have hb0 : Below w.heap.size w w' := ext_trans (ext_alloc (ext_refl _) _) hG
             have HB0 := hid hb0
             have HGG := hid hG
             clear hb0 hG c0 c1 c2 c3 c4 t0 t1 t2 t3 t4 t5 t6 t7 t8 t9 t10 t11 t12 f1 ft0 ft3 ft4 ft5 ft6 ft7 ft8 ft9 ft10 ft11 ft12 s0 s1 fs0 fs1 b0
             go_simp
             first
             | exact hK _ HGG.out
             | (go_wp2_with (first | ((with_reducible refine (HL2.out _ HB0.out).mono ?_); rintro e' w1 ⟨rfl, rfl⟩) | ((with_reducible refine (HO.out _ HB0.out).mono ?_); rintro e' w1 ⟨rfl, hb1⟩) | ((with_reducible refine (HN.out _ HB0.out).mono ?_); rintro e' w1 ⟨rfl, n2, rfl⟩))
                first | (with_reducible exact HGG.out) | exact ext_trans HGG.out hb1 | exact ext_drewN HGG.out _ | exact hK _ HGG.out | exact hK _ (ext_trans HGG.out hb1) | exact hK _ (ext_drewN HGG.out _))))
      case hdone =>
        intro w' hG
        have hb1 : Below w.heap.size w w' := ext_trans (ext_alloc (ext_refl _) _) hG
        clear hG
        go_wp2_with fail
        go_ret
        exact stepP_no HR.out HH.out rfl hb1
    · have HO := hid (HX false false e1 (decide_eq_false p3)).1
      have HN := hid (HX false false e1 (decide_eq_false p3)).2
      have HR := hid (show checkS s t ⟨kind, i, tx, a, v, x, why⟩ = _ from if_pos ⟨p1, by dsimp only; omega, e1, by dsimp only; omega⟩)
      clear p1 p2 HX e1 p3
      go_enter Tryz.func79, Tryz.ntmps79
      go_wp2_with fail
      have b0 := (Blk.new w #[.int .u8 kind, .int .i64 (i : Int), .int .i64 tx, .int .i64 (a : Int), .int .i64 v, .int .i64 x, .int .u8 why] 50)
      apply wp_region_vals' [.pointer (some ⟨tb, i * 13, none⟩), .pointer (some ⟨tb, i * 13, none⟩), .pointer (some ⟨tb, i * 13, none⟩), .int .i64 t.at_, .bool false, .bool false, .pointer (some ⟨w.heap.size, 3, none⟩), .int .i64 (a : Int), .pointer (some ⟨tb, i * 13, none⟩), .pointer (some ⟨tb, i * 13, none⟩), .pointer (some ⟨tb, i * 13 + 9, none⟩), .int .u32 (t.check : Int), .int .i64 (leastb t.check : Int), .bool false, .bool false, .bool false, .pointer (some ⟨c, 0, none⟩), .pointer (some ⟨w.heap.size, 3, none⟩), .int .i64 (a : Int), .agg #[.int .u8 kind, .int .i64 (i : Int), .int .i64 tx, .int .i64 (a : Int), .int .i64 v, .int .i64 x, .int .u8 why], .bool false, .bool false, .bool false, .pointer (some ⟨c, 0, none⟩), .pointer (some ⟨w.heap.size, 3, none⟩), .int .i64 (a : Int), .pointer (some ⟨tb, i * 13, none⟩), .bool false, .bool false] (fun w' => Below (w.alloc (.cells #[.int .u8 kind, .int .i64 (i : Int), .int .i64 tx, .int .i64 (a : Int), .int .i64 v, .int .i64 x, .int .u8 why] 50)).heap.size (w.alloc (.cells #[.int .u8 kind, .int .i64 (i : Int), .int .i64 tx, .int .i64 (a : Int), .int .i64 v, .int .i64 x, .int .u8 why] 50)) w')
      focus (simp [putAll, dstOf, Act.put, List.getD]; rfl)
      case hm => kernel_rfl
      case hd => kernel_rfl
      case hb => kernel_rfl
      case hdep => kernel_rfl
      case hsel => kernel_rfl
      case hsz => kernel_rfl
      case h0 => exact ext_drew (ext_refl _)
      case hstep =>
        repeat' (first | exact trivial | (refine And.intro ?_ ?_))
        all_goals (
          intro w' hG
          first
          | (rw [if_neg (ne_true_of_eq_false (by kernel_rfl))]; rfl)
          | (rw [if_pos (by kernel_rfl)]
             intro K Qp hK
             have d0 := later hG (cell_alloc t0)
             have d9 := later hG (cell_alloc t9)
             have d10 := later hG (b0.cell 0 rfl)
             have d11 := later hG (b0.cell 1 rfl)
             have d12 := later hG (b0.cell 2 rfl)
             have d13 := later hG (b0.cell 3 rfl)
             have d14 := later hG (b0.cell 4 rfl)
             have d15 := later hG (b0.cell 5 rfl)
             have d16 := later hG (b0.cell 6 rfl)
             have hb0 : Below w.heap.size w w' := ext_trans (ext_alloc (ext_refl _) _) hG
             have HB0 := hid hb0
             have HGG := hid hG
             clear hb0 hG c0 c1 c2 c3 c4 t0 t1 t2 t3 t4 t5 t6 t7 t8 t9 t10 t11 t12 f1 ft0 ft3 ft4 ft5 ft6 ft7 ft8 ft9 ft10 ft11 ft12 s0 s1 fs0 fs1 b0
             go_simp
             first
             | exact hK _ HGG.out
             | (go_wp2_with (first | ((with_reducible refine (HL2.out _ HB0.out).mono ?_); rintro e' w1 ⟨rfl, rfl⟩) | ((with_reducible refine (HO.out _ HB0.out).mono ?_); rintro e' w1 ⟨rfl, hb1⟩) | ((with_reducible refine (HN.out _ HB0.out).mono ?_); rintro e' w1 ⟨rfl, n2, rfl⟩))
                first | (with_reducible exact HGG.out) | exact ext_trans HGG.out hb1 | exact ext_drewN HGG.out _ | exact hK _ HGG.out | exact hK _ (ext_trans HGG.out hb1) | exact hK _ (ext_drewN HGG.out _))))
      case hdone =>
        intro w' hG
        have hb1 : Below w.heap.size w w' := ext_trans (ext_alloc (ext_refl _) _) hG
        have d9 := later hG (cell_alloc t9)
        have d13 := later hG (b0.cell 3 rfl)
        have H1 : CkAt w' c tb sb s ev := CkR.below HH.out hb1
        have e9 : w'.frozen? ⟨tb, i * 13 + 9, none⟩ = false := H1.th.free _
        clear HK
        have HK : Hid (CkR w' c tb sb s.ths.length s.sts.length s.vars s.clock ev (s.ths.map thL) (s.sts.map stL)) := hid H1
        have HT1 : Hid (Turn [c, tb, sb] w w') := hid (Turn.of_below hb1)
        clear H1 hG hb1 c0 c1 c2 c3 c4 t0 t1 t2 t3 t4 t5 t6 t7 t8 t9 t10 t11 t12 f1 ft0 ft3 ft4 ft5 ft6 ft7 ft8 ft9 ft10 ft11 ft12 s0 s1 fs0 fs1 b0
        go_wp2_with fail
        go_region
        all_goals (
          go_wp2_with fail
          go_ret
          (apply stepP_yes HR.out rfl; (focus (repeat (first | (with_reducible exact HK.out) | (with_reducible apply CkR.drew) | (with_reducible apply CkR.alloc) | (with_reducible apply CkR.drewN) | (with_reducible apply CkR.set_t0; any_goals (exact HI.out)) | (with_reducible apply CkR.set_t; any_goals (first | (exact HI.out) | decide)) | (with_reducible apply CkR.set_s0; any_goals (exact HA.out)) | (with_reducible apply CkR.set_s; any_goals (first | (exact HA.out) | decide)) | (with_reducible apply CkR.set_clock)))); (exact ⟨rfl, rfl⟩); ((try simp only [modify_modify]); exact map_modify' _ _ _ _ _ _ HG.out rfl); rfl; (repeat (first | (with_reducible exact HT1.out) | (with_reducible exact Turn.refl _ _) | (with_reducible refine Turn.drew ?_) | (with_reducible refine Turn.alloc ?_ _) | (with_reducible refine Turn.drewN ?_ _) | (with_reducible refine Turn.setCell ?_ (Or.inl (by simp)) _)))))
end
end Go.Proofs.YtnblhodhkifeeaaGreatDoor
/-
  The checker; walks: Abort.
-/
namespace Go.Proofs.YtnblhodhkifeeaaGreatDoor
set_option linter.unusedVariables false
open Go Go.RowKit
section
variable {w : World} {c tb sb : Nat} {s : Sh} {ev : Nat}
set_option maxRecDepth 100000 in
set_option maxHeartbeats 4000000 in
theorem abort_any (h : CkAt w c tb sb s ev) (hT : TabOk w) (i : Nat) (hi : i < s.ths.length) {t : Th} (he : s.ths.getD i Th.zero = t) (hm : t.check < 4294967296) (q : Nat) (hq : t.stripe = (q : Int)) (hqn : q < s.sts.length) (a : Nat) (ha : a < s.sts.length) (kind tx v x why : Int) (hy : 1 ≤ why ∧ why ≤ 6) :
    Calls Tryz.prog 83 #[.pointer (some ⟨c, 0, none⟩), .pointer (some ⟨tb, i * 13, none⟩), .agg #[.int .u8 kind, .int .i64 (i : Int), .int .i64 tx, .int .i64 (a : Int), .int .i64 v, .int .i64 x, .int .u8 why]] w
      (StepP w c tb sb s ev (abortS s t ⟨kind, i, tx, a, v, x, why⟩)) := by
  obtain ⟨c0, c1, c2, c3, c4⟩ := h.cells
  obtain ⟨t0, t1, t2, t3, t4, t5, t6, t7, t8, t9, t10, t11, t12⟩ := h.t hi he
  have f1 : w.frozen? ⟨c, 1, none⟩ = false := h.ck.free 1
  have ft0 : w.frozen? ⟨tb, i * 13, none⟩ = false := h.th.free _
  have ft3 : w.frozen? ⟨tb, i * 13 + 3, none⟩ = false := h.th.free _
  have ft4 : w.frozen? ⟨tb, i * 13 + 4, none⟩ = false := h.th.free _
  have ft5 : w.frozen? ⟨tb, i * 13 + 5, none⟩ = false := h.th.free _
  have ft6 : w.frozen? ⟨tb, i * 13 + 6, none⟩ = false := h.th.free _
  have ft7 : w.frozen? ⟨tb, i * 13 + 7, none⟩ = false := h.th.free _
  have ft8 : w.frozen? ⟨tb, i * 13 + 8, none⟩ = false := h.th.free _
  have ft9 : w.frozen? ⟨tb, i * 13 + 9, none⟩ = false := h.th.free _
  have ft10 : w.frozen? ⟨tb, i * 13 + 10, none⟩ = false := h.th.free _
  have ft11 : w.frozen? ⟨tb, i * 13 + 11, none⟩ = false := h.th.free _
  have ft12 : w.frozen? ⟨tb, i * 13 + 12, none⟩ = false := h.th.free _
  have hcl := lt_of_cell c0
  have htl := lt_of_cell t0
  have HH := hid h
  have HK : Hid (CkR w c tb sb s.ths.length s.sts.length s.vars s.clock ev (s.ths.map thL) (s.sts.map stL)) := hid h
  have HI := hid hi
  have hne := h.ne
  have HG : Hid (s.ths[i]? = some t) := hid (get_of_getD hi he)
  have HE := hid he
  have s0 := (h.si ha).1
  have s1 := (h.si ha).2
  have fs0 : w.frozen? ⟨sb, a * 2, none⟩ = false := h.st.free _
  have fs1 : w.frozen? ⟨sb, a * 2 + 1, none⟩ = false := h.st.free _
  have ga0 : (0 : Int) ≤ (a : Int) := by omega
  have ga1 : (a : Int) < (s.sts.length : Int) := by omega
  have hsl := lt_of_cell s0
  have HA := hid ha
  have HQ : Hid (s.sts[a]? = some (s.own a, s.ver a)) := hid (get_of_getD ha rfl)
  have HL2 := hid fun W (hW : Below w.heap.size w W) => least_any t.check hm W (hT.below hW)
  have HO := hid fun W (hW : Below w.heap.size w W) => others_any (s := s) (ev := ev) (CkR.below h hW) a ha kind i tx a v x why
  have HN := hid fun W (hW : Below w.heap.size w W) => newer_any (s := s) (ev := ev) (CkR.below h hW) a ha hi he
  have HF := hid fun W (hW : Below w.heap.size w W) => free_any (s := s) (ev := ev) (CkR.below h hW) a ha
  have HST := hid fun W (hW : Below w.heap.size w W) => still_any (s := s) (ev := ev) (CkR.below h hW) hi he hq hqn
  rw [hq] at t4
  have b0 := (Blk.new w #[.int .u8 kind, .int .i64 (i : Int), .int .i64 tx, .int .i64 (a : Int), .int .i64 v, .int .i64 x, .int .u8 why] 50)
  have HB := hid b0
  clear b0
  have HQS := hid hq
  clear h hT he hi ha hq hqn
  go_enter Tryz.func83, Tryz.ntmps83
  go_upto_block 0 with (fail)
  go_cut [7] (fun f w' => f = .bool (fitsS s t ⟨kind, i, tx, a, v, x, why⟩) ∧ Below (w.alloc (.cells #[.int .u8 kind, .int .i64 (i : Int), .int .i64 tx, .int .i64 (a : Int), .int .i64 v, .int .i64 x, .int .u8 why] 50)).heap.size (w.alloc (.cells #[.int .u8 kind, .int .i64 (i : Int), .int .i64 tx, .int .i64 (a : Int), .int .i64 v, .int .i64 x, .int .u8 why] 50)) w')
  case first =>
    have hc : (why == 1) = true ∨ ((why == 1) = false ∧ (why == 2) = true) ∨ ((why == 1) = false ∧ (why == 2) = false ∧ (why == 3) = true) ∨ ((why == 1) = false ∧ (why == 2) = false ∧ (why == 3) = false ∧ (why == 4) = true) ∨
        ((why == 1) = false ∧ (why == 2) = false ∧ (why == 3) = false ∧ (why == 4) = false ∧ (why == 5) = true) ∨ ((why == 1) = false ∧ (why == 2) = false ∧ (why == 3) = false ∧ (why == 4) = false ∧ (why == 5) = false ∧ (why == 6) = true) := by
      simp only [beq_iff_eq, beq_eq_false_iff_ne]; omega
    clear hy
    rcases hc with y1 | ⟨y1, y2⟩ | ⟨y1, y2, y3⟩ | ⟨y1, y2, y3, y4⟩ | ⟨y1, y2, y3, y4, y5⟩ | ⟨y1, y2, y3, y4, y5, y6⟩
    · by_cases p1 : t.at_ = 1
      · have k1 : (t.at_ == 1) = true := by simpa using p1
        have HR : Hid (fitsS s t ⟨kind, i, tx, a, v, x, why⟩ = s.oth a i) := hid (by unfold fitsS; simp only [beq_iff_eq] at y1; rw [if_pos y1, decide_eq_true p1]; rfl)
        clear p1
        go_wp2_with ((with_reducible refine (HO.out _ ?_).mono ?_); (focus repeat (first | assumption | exact ext_refl _ | refine ext_drew ?_ | refine ext_alloc ?_ _ | refine ext_trans ?_ (by assumption))); rintro e' w1 ⟨rfl, hb1⟩)
        go_meet
        exact ⟨by rw [HR.out], hb1⟩
      · have k1 : (t.at_ == 1) = false := by simpa using p1
        have HR : Hid (fitsS s t ⟨kind, i, tx, a, v, x, why⟩ = false) := hid (by unfold fitsS; simp only [beq_iff_eq] at y1; rw [if_pos y1, decide_eq_false p1]; rfl)
        clear p1
        go_wp2_with fail
        go_meet
        exact ⟨by rw [HR.out], by repeat (first | assumption | exact ext_refl _ | refine ext_drew ?_ | refine ext_alloc ?_ _ | refine ext_trans ?_ (by assumption))⟩
    · by_cases p1 : t.at_ = 1
      · have k1 : (t.at_ == 1) = true := by simpa using p1
        by_cases p2 : s.own a = -1
        · have k2 : (s.own (a : Int) == -1) = true := by simpa using p2
          have HR : Hid (fitsS s t ⟨kind, i, tx, a, v, x, why⟩ = decide (t.rv < s.ver a)) := hid (by
            unfold fitsS; simp only [beq_iff_eq, beq_eq_false_iff_ne] at y1 y2; rw [if_neg y1, if_pos y2]; simp [p1, p2])
          clear p1 p2
          go_wp2_with (first | ((with_reducible refine (HF.out _ ?_).mono ?_); (focus repeat (first | assumption | exact ext_refl _ | refine ext_drew ?_ | refine ext_alloc ?_ _ | refine ext_trans ?_ (by assumption))); rintro e' w1 ⟨rfl, rfl⟩) | ((with_reducible refine (HN.out _ ?_).mono ?_); (focus repeat (first | assumption | exact ext_refl _ | refine ext_drew ?_ | refine ext_alloc ?_ _ | refine ext_trans ?_ (by assumption))); rintro e' w1 ⟨rfl, n2, rfl⟩))
          go_meet
          exact ⟨by rw [HR.out], ext_drewN (ext_refl _) _⟩
        · have k2 : (s.own (a : Int) == -1) = false := by simpa using p2
          have HR : Hid (fitsS s t ⟨kind, i, tx, a, v, x, why⟩ = false) := hid (by
            unfold fitsS; simp only [beq_iff_eq, beq_eq_false_iff_ne] at y1 y2; rw [if_neg y1, if_pos y2]; simp [p2])
          clear p1 p2
          go_wp2_with ((with_reducible refine (HF.out _ ?_).mono ?_); (focus repeat (first | assumption | exact ext_refl _ | refine ext_drew ?_ | refine ext_alloc ?_ _ | refine ext_trans ?_ (by assumption))); rintro e' w1 ⟨rfl, rfl⟩)
          go_meet
          exact ⟨by rw [HR.out], by repeat (first | assumption | exact ext_refl _ | refine ext_drew ?_ | refine ext_alloc ?_ _ | refine ext_trans ?_ (by assumption))⟩
      · have k1 : (t.at_ == 1) = false := by simpa using p1
        have HR : Hid (fitsS s t ⟨kind, i, tx, a, v, x, why⟩ = false) := hid (by
          unfold fitsS; simp only [beq_iff_eq, beq_eq_false_iff_ne] at y1 y2; rw [if_neg y1, if_pos y2]; simp [p1])
        clear p1
        go_wp2_with fail
        go_meet
        exact ⟨by rw [HR.out], by repeat (first | assumption | exact ext_refl _ | refine ext_drew ?_ | refine ext_alloc ?_ _ | refine ext_trans ?_ (by assumption))⟩
    · by_cases p1 : t.at_ = 2
      · have k1 : (t.at_ == 2) = true := by simpa using p1
        by_cases p2 : a = q
        · have k2 : ((a : Int) == (q : Int)) = true := by simp [p2]
          by_cases p3 : s.own t.stripe = -1 ∧ s.ver t.stripe = t.v
          · have HR : Hid (fitsS s t ⟨kind, i, tx, a, v, x, why⟩ = false) := hid (by
              unfold fitsS; simp only [beq_iff_eq, beq_eq_false_iff_ne] at y1 y2 y3; rw [if_neg y1]; rw [if_neg y2]; rw [if_pos y3]; simp [p3])
            have p3' := decide_eq_true p3
            have P3 := hid p3'
            clear p1 p2 p3 p3'
            go_wp2_with fail
            go_quiet ((go_at_call 132; exact Calls.quiet_of ((HST.out _ (ext_drewN (ext_alloc (ext_refl _) _) _)).mono fun e w' ⟨h1, h2⟩ => ⟨by rw [h1, P3.out], h2⟩)))
            go_wp2_with fail
            go_meet
            exact ⟨by rw [HR.out], ext_drewN (ext_refl _) _⟩
          · have HR : Hid (fitsS s t ⟨kind, i, tx, a, v, x, why⟩ = true) := hid (by
              unfold fitsS; simp only [beq_iff_eq, beq_eq_false_iff_ne] at y1 y2 y3; rw [if_neg y1]; rw [if_neg y2]; rw [if_pos y3]; have hqs := HQS.out; rw [decide_eq_true]; exact ⟨p1, by dsimp only; omega, p3⟩)
            have p3' := decide_eq_false p3
            have P3 := hid p3'
            clear p1 p2 p3 p3'
            go_wp2_with fail
            go_quiet ((go_at_call 132; exact Calls.quiet_of ((HST.out _ (ext_drewN (ext_alloc (ext_refl _) _) _)).mono fun e w' ⟨h1, h2⟩ => ⟨by rw [h1, P3.out], h2⟩)))
            go_wp2_with fail
            go_meet
            exact ⟨by rw [HR.out], ext_drewN (ext_refl _) _⟩
        · have k2 : ((a : Int) == (q : Int)) = false := by simp; omega
          have HR : Hid (fitsS s t ⟨kind, i, tx, a, v, x, why⟩ = false) := hid (by
            unfold fitsS; simp only [beq_iff_eq, beq_eq_false_iff_ne] at y1 y2 y3; rw [if_neg y1]; rw [if_neg y2]; rw [if_pos y3]; have hqs := HQS.out; rw [decide_eq_false]; intro hh; have := hh.2.1; dsimp only at this; omega)
          clear p1 p2
          go_wp2_with fail
          go_quiet (fail)
          go_wp2_with fail
          go_meet
          exact ⟨by rw [HR.out], ext_drewN (ext_refl _) _⟩
      · have k1 : (t.at_ == 2) = false := by simpa using p1
        have HR : Hid (fitsS s t ⟨kind, i, tx, a, v, x, why⟩ = false) := hid (by
          unfold fitsS; simp only [beq_iff_eq, beq_eq_false_iff_ne] at y1 y2 y3; rw [if_neg y1]; rw [if_neg y2]; rw [if_pos y3]; simp [p1])
        clear p1
        go_wp2_with fail
        go_quiet (fail)
        go_wp2_with fail
        go_meet
        exact ⟨by rw [HR.out], ext_drewN (ext_refl _) _⟩
    · by_cases p2 : t.locked < (a : Int)
      · by_cases p1 : t.at_ = 1
        · have k1 : (t.at_ == 1) = true := by simpa using p1
          have HR : Hid (fitsS s t ⟨kind, i, tx, a, v, x, why⟩ = s.oth a i) := hid (by
            unfold fitsS; simp only [beq_iff_eq, beq_eq_false_iff_ne] at y1 y2 y3 y4; rw [if_neg y1]; rw [if_neg y2]; rw [if_neg y3]; rw [if_pos y4]; rw [decide_eq_true ⟨Or.inl p1, p2⟩]; rfl)
          clear p1
          go_wp2_with fail
          apply wp_region_vals' [.pointer (some ⟨tb, i * 13, none⟩), .pointer (some ⟨tb, i * 13, none⟩), .pointer (some ⟨tb, i * 13, none⟩), .int .i64 t.at_, .bool true, .bool true, undef, undef, undef, undef, undef, .bool true, .bool true, .pointer (some ⟨w.heap.size, 3, none⟩), .int .i64 (a : Int), .pointer (some ⟨tb, i * 13, none⟩), .pointer (some ⟨tb, i * 13, none⟩), .pointer (some ⟨tb, i * 13 + 10, none⟩), .int .i64 t.locked, .bool true, .bool true, .bool true, .pointer (some ⟨c, 0, none⟩), .pointer (some ⟨w.heap.size, 3, none⟩), .int .i64 (a : Int), .agg #[.int .u8 kind, .int .i64 (i : Int), .int .i64 tx, .int .i64 (a : Int), .int .i64 v, .int .i64 x, .int .u8 why], .bool (s.oth a i), .bool (s.oth a i), .bool (s.oth a i)] (fun w' => Below (w.alloc (.cells #[.int .u8 kind, .int .i64 (i : Int), .int .i64 tx, .int .i64 (a : Int), .int .i64 v, .int .i64 x, .int .u8 why] 50)).heap.size (w.alloc (.cells #[.int .u8 kind, .int .i64 (i : Int), .int .i64 tx, .int .i64 (a : Int), .int .i64 v, .int .i64 x, .int .u8 why] 50)) w')
          focus (simp [putAll, dstOf, Act.put, List.getD]; rfl)
          case hm => kernel_rfl
          case hd => kernel_rfl
          case hb => kernel_rfl
          case hdep => kernel_rfl
          case hsel => kernel_rfl
          case hsz => kernel_rfl
          case h0 => exact ext_drew (ext_refl _)
          case hstep =>
            repeat' (first | exact trivial | (refine And.intro ?_ ?_))
            all_goals (
              intro w' hG
              first
              | (rw [if_neg (ne_true_of_eq_false (by kernel_rfl))]; rfl)
              | (rw [if_pos (by kernel_rfl)]
                 intro K Qp hK
                 have d0 := later hG (cell_alloc t0)
                 have d10 := later hG (cell_alloc t10)
                 have d20 := later hG (HB.out.cell 0 rfl)
                 have d21 := later hG (HB.out.cell 1 rfl)
                 have d22 := later hG (HB.out.cell 2 rfl)
                 have d23 := later hG (HB.out.cell 3 rfl)
                 have d24 := later hG (HB.out.cell 4 rfl)
                 have d25 := later hG (HB.out.cell 5 rfl)
                 have d26 := later hG (HB.out.cell 6 rfl)
                 have hb0 : Below w.heap.size w w' := ext_trans (ext_alloc (ext_refl _) _) hG
                 have HB0 := hid hb0
                 have HGG := hid hG
                 clear hb0 hG c0 c1 c2 c3 c4 t0 t1 t2 t3 t4 t5 t6 t7 t8 t9 t10 t11 t12 f1 ft0 ft3 ft4 ft5 ft6 ft7 ft8 ft9 ft10 ft11 ft12 s0 s1 fs0 fs1
                 go_simp
                 first
                 | exact hK _ HGG.out
                 | (go_wp2_with (first | ((with_reducible refine (HO.out _ HB0.out).mono ?_); rintro e' w1 ⟨rfl, hb1⟩))
                    first | (with_reducible exact HGG.out) | exact ext_trans HGG.out hb1 | exact ext_drewN HGG.out _ | exact hK _ HGG.out | exact hK _ (ext_trans HGG.out hb1) | exact hK _ (ext_drewN HGG.out _))))
          case hdone =>
            intro w' hG
            go_wp2_with fail
            go_meet
            exact ⟨by rw [HR.out], hG⟩
        · have k1 : (t.at_ == 1) = false := by simpa using p1
          by_cases p3 : t.at_ = 3
          · have k3 : (t.at_ == 3) = true := by simpa using p3
            have HR : Hid (fitsS s t ⟨kind, i, tx, a, v, x, why⟩ = s.oth a i) := hid (by
              unfold fitsS; simp only [beq_iff_eq, beq_eq_false_iff_ne] at y1 y2 y3 y4; rw [if_neg y1]; rw [if_neg y2]; rw [if_neg y3]; rw [if_pos y4]; rw [decide_eq_true ⟨Or.inr p3, p2⟩]; rfl)
            clear p1 p3
            go_wp2_with fail
            apply wp_region_vals' [.pointer (some ⟨tb, i * 13, none⟩), .pointer (some ⟨tb, i * 13, none⟩), .pointer (some ⟨tb, i * 13, none⟩), .int .i64 t.at_, .bool false, .bool false, .pointer (some ⟨tb, i * 13, none⟩), .pointer (some ⟨tb, i * 13, none⟩), .pointer (some ⟨tb, i * 13, none⟩), .int .i64 t.at_, .bool true, .bool true, .bool true, .pointer (some ⟨w.heap.size, 3, none⟩), .int .i64 (a : Int), .pointer (some ⟨tb, i * 13, none⟩), .pointer (some ⟨tb, i * 13, none⟩), .pointer (some ⟨tb, i * 13 + 10, none⟩), .int .i64 t.locked, .bool true, .bool true, .bool true, .pointer (some ⟨c, 0, none⟩), .pointer (some ⟨w.heap.size, 3, none⟩), .int .i64 (a : Int), .agg #[.int .u8 kind, .int .i64 (i : Int), .int .i64 tx, .int .i64 (a : Int), .int .i64 v, .int .i64 x, .int .u8 why], .bool (s.oth a i), .bool (s.oth a i), .bool (s.oth a i)] (fun w' => Below (w.alloc (.cells #[.int .u8 kind, .int .i64 (i : Int), .int .i64 tx, .int .i64 (a : Int), .int .i64 v, .int .i64 x, .int .u8 why] 50)).heap.size (w.alloc (.cells #[.int .u8 kind, .int .i64 (i : Int), .int .i64 tx, .int .i64 (a : Int), .int .i64 v, .int .i64 x, .int .u8 why] 50)) w')
            focus (simp [putAll, dstOf, Act.put, List.getD]; rfl)
            case hm => kernel_rfl
            case hd => kernel_rfl
            case hb => kernel_rfl
            case hdep => kernel_rfl
            case hsel => kernel_rfl
            case hsz => kernel_rfl
            case h0 => exact ext_drew (ext_refl _)
            case hstep =>
              repeat' (first | exact trivial | (refine And.intro ?_ ?_))
              all_goals (
                intro w' hG
                first
                | (rw [if_neg (ne_true_of_eq_false (by kernel_rfl))]; rfl)
                | (rw [if_pos (by kernel_rfl)]
                   intro K Qp hK
                   have d0 := later hG (cell_alloc t0)
                   have d10 := later hG (cell_alloc t10)
                   have d20 := later hG (HB.out.cell 0 rfl)
                   have d21 := later hG (HB.out.cell 1 rfl)
                   have d22 := later hG (HB.out.cell 2 rfl)
                   have d23 := later hG (HB.out.cell 3 rfl)
                   have d24 := later hG (HB.out.cell 4 rfl)
                   have d25 := later hG (HB.out.cell 5 rfl)
                   have d26 := later hG (HB.out.cell 6 rfl)
                   have hb0 : Below w.heap.size w w' := ext_trans (ext_alloc (ext_refl _) _) hG
                   have HB0 := hid hb0
                   have HGG := hid hG
                   clear hb0 hG c0 c1 c2 c3 c4 t0 t1 t2 t3 t4 t5 t6 t7 t8 t9 t10 t11 t12 f1 ft0 ft3 ft4 ft5 ft6 ft7 ft8 ft9 ft10 ft11 ft12 s0 s1 fs0 fs1
                   go_simp
                   first
                   | exact hK _ HGG.out
                   | (go_wp2_with (first | ((with_reducible refine (HO.out _ HB0.out).mono ?_); rintro e' w1 ⟨rfl, hb1⟩))
                      first | (with_reducible exact HGG.out) | exact ext_trans HGG.out hb1 | exact ext_drewN HGG.out _ | exact hK _ HGG.out | exact hK _ (ext_trans HGG.out hb1) | exact hK _ (ext_drewN HGG.out _))))
            case hdone =>
              intro w' hG
              go_wp2_with fail
              go_meet
              exact ⟨by rw [HR.out], hG⟩
          · have k3 : (t.at_ == 3) = false := by simpa using p3
            have HR : Hid (fitsS s t ⟨kind, i, tx, a, v, x, why⟩ = false) := hid (by
              unfold fitsS; simp only [beq_iff_eq, beq_eq_false_iff_ne] at y1 y2 y3 y4; rw [if_neg y1]; rw [if_neg y2]; rw [if_neg y3]; rw [if_pos y4]; simp [p1, p3])
            clear p1 p3 p2
            go_wp2_with fail
            go_quiet (fail)
            go_wp2_with fail
            go_meet
            exact ⟨by rw [HR.out], ext_drewN (ext_refl _) _⟩
      · have k2 : decide (t.locked < (a : Int)) = false := decide_eq_false p2
        have HR : Hid (fitsS s t ⟨kind, i, tx, a, v, x, why⟩ = false) := hid (by
          unfold fitsS; simp only [beq_iff_eq, beq_eq_false_iff_ne] at y1 y2 y3 y4; rw [if_neg y1]; rw [if_neg y2]; rw [if_neg y3]; rw [if_pos y4]; rw [decide_eq_false (fun hh => p2 hh.2)]; rfl)
        by_cases p1 : t.at_ = 1
        · have k1 : (t.at_ == 1) = true := by simpa using p1
          clear p1 p2
          go_wp2_with fail
          go_quiet (fail)
          go_wp2_with fail
          go_meet
          exact ⟨by rw [HR.out], ext_drewN (ext_refl _) _⟩
        · have k1 : (t.at_ == 1) = false := by simpa using p1
          by_cases p3 : t.at_ = 3
          · have k3 : (t.at_ == 3) = true := by simpa using p3
            clear p1 p2 p3
            go_wp2_with fail
            go_quiet (fail)
            go_wp2_with fail
            go_meet
            exact ⟨by rw [HR.out], ext_drewN (ext_refl _) _⟩
          · have k3 : (t.at_ == 3) = false := by simpa using p3
            clear p1 p2 p3
            go_wp2_with fail
            go_quiet (fail)
            go_wp2_with fail
            go_meet
            exact ⟨by rw [HR.out], ext_drewN (ext_refl _) _⟩
    · by_cases p1 : t.at_ = 4
      · have k1 : (t.at_ == 4) = true := by simpa using p1
        by_cases p2 : a = leastb t.check
        · have k2 : ((a : Int) == (leastb t.check : Int)) = true := by simp; omega
          cases e1 : s.oth a i with
          | true =>
            have HR : Hid (fitsS s t ⟨kind, i, tx, a, v, x, why⟩ = true) := hid (by
              unfold fitsS; simp only [beq_iff_eq, beq_eq_false_iff_ne] at y1 y2 y3 y4 y5; rw [if_neg y1]; rw [if_neg y2]; rw [if_neg y3]; rw [if_neg y4]; rw [if_pos y5]; rw [decide_eq_true ⟨p1, by dsimp only; omega⟩, e1]; rfl)
            rw [e1] at HO
            clear p1 p2 e1
            go_wp2_with fail
            apply wp_region_vals' [.pointer (some ⟨tb, i * 13, none⟩), .pointer (some ⟨tb, i * 13, none⟩), .pointer (some ⟨tb, i * 13, none⟩), .int .i64 t.at_, .bool true, .bool true, .pointer (some ⟨w.heap.size, 3, none⟩), .int .i64 (a : Int), .pointer (some ⟨tb, i * 13, none⟩), .pointer (some ⟨tb, i * 13, none⟩), .pointer (some ⟨tb, i * 13 + 9, none⟩), .int .u32 (t.check : Int), .int .i64 (leastb t.check : Int), .bool true, .bool true, .bool true, .pointer (some ⟨c, 0, none⟩), .pointer (some ⟨w.heap.size, 3, none⟩), .int .i64 (a : Int), .agg #[.int .u8 kind, .int .i64 (i : Int), .int .i64 tx, .int .i64 (a : Int), .int .i64 v, .int .i64 x, .int .u8 why], .bool true, .bool true, undef, undef, undef, undef, undef, .bool true, .bool true, .bool true] (fun w' => Below (w.alloc (.cells #[.int .u8 kind, .int .i64 (i : Int), .int .i64 tx, .int .i64 (a : Int), .int .i64 v, .int .i64 x, .int .u8 why] 50)).heap.size (w.alloc (.cells #[.int .u8 kind, .int .i64 (i : Int), .int .i64 tx, .int .i64 (a : Int), .int .i64 v, .int .i64 x, .int .u8 why] 50)) w')
            focus (simp [putAll, dstOf, Act.put, List.getD]; rfl)
            case hm => kernel_rfl
            case hd => kernel_rfl
            case hb => kernel_rfl
            case hdep => kernel_rfl
            case hsel => kernel_rfl
            case hsz => kernel_rfl
            case h0 => exact ext_drew (ext_refl _)
            case hstep =>
              repeat' (first | exact trivial | (refine And.intro ?_ ?_))
              all_goals (
                intro w' hG
                first
                | (rw [if_neg (ne_true_of_eq_false (by kernel_rfl))]; rfl)
                | (rw [if_pos (by kernel_rfl)]
                   intro K Qp hK
                   have d0 := later hG (cell_alloc t0)
                   have d9 := later hG (cell_alloc t9)
                   have d20 := later hG (HB.out.cell 0 rfl)
                   have d21 := later hG (HB.out.cell 1 rfl)
                   have d22 := later hG (HB.out.cell 2 rfl)
                   have d23 := later hG (HB.out.cell 3 rfl)
                   have d24 := later hG (HB.out.cell 4 rfl)
                   have d25 := later hG (HB.out.cell 5 rfl)
                   have d26 := later hG (HB.out.cell 6 rfl)
                   have hb0 : Below w.heap.size w w' := ext_trans (ext_alloc (ext_refl _) _) hG
                   have HB0 := hid hb0
                   have HGG := hid hG
                   clear hb0 hG c0 c1 c2 c3 c4 t0 t1 t2 t3 t4 t5 t6 t7 t8 t9 t10 t11 t12 f1 ft0 ft3 ft4 ft5 ft6 ft7 ft8 ft9 ft10 ft11 ft12 s0 s1 fs0 fs1
                   go_simp
                   first
                   | exact hK _ HGG.out
                   | (go_wp2_with (first | ((with_reducible refine (HL2.out _ HB0.out).mono ?_); rintro e' w1 ⟨rfl, rfl⟩) | ((with_reducible refine (HO.out _ HB0.out).mono ?_); rintro e' w1 ⟨rfl, hb1⟩))
                      first | (with_reducible exact HGG.out) | exact ext_trans HGG.out hb1 | exact ext_drewN HGG.out _ | exact hK _ HGG.out | exact hK _ (ext_trans HGG.out hb1) | exact hK _ (ext_drewN HGG.out _))))
            case hdone =>
              intro w' hG
              go_wp2_with fail
              go_meet
              exact ⟨by rw [HR.out], hG⟩
          | false =>
            have HR : Hid (fitsS s t ⟨kind, i, tx, a, v, x, why⟩ = decide (t.rv < s.ver a)) := hid (by
              unfold fitsS; simp only [beq_iff_eq, beq_eq_false_iff_ne] at y1 y2 y3 y4 y5; rw [if_neg y1]; rw [if_neg y2]; rw [if_neg y3]; rw [if_neg y4]; rw [if_pos y5]; rw [decide_eq_true ⟨p1, by dsimp only; omega⟩, e1]; rfl)
            rw [e1] at HO
            clear p1 p2 e1
            go_wp2_with fail
            apply wp_region_vals' [.pointer (some ⟨tb, i * 13, none⟩), .pointer (some ⟨tb, i * 13, none⟩), .pointer (some ⟨tb, i * 13, none⟩), .int .i64 t.at_, .bool true, .bool true, .pointer (some ⟨w.heap.size, 3, none⟩), .int .i64 (a : Int), .pointer (some ⟨tb, i * 13, none⟩), .pointer (some ⟨tb, i * 13, none⟩), .pointer (some ⟨tb, i * 13 + 9, none⟩), .int .u32 (t.check : Int), .int .i64 (leastb t.check : Int), .bool true, .bool true, .bool true, .pointer (some ⟨c, 0, none⟩), .pointer (some ⟨w.heap.size, 3, none⟩), .int .i64 (a : Int), .agg #[.int .u8 kind, .int .i64 (i : Int), .int .i64 tx, .int .i64 (a : Int), .int .i64 v, .int .i64 x, .int .u8 why], .bool false, .bool false, .pointer (some ⟨c, 0, none⟩), .pointer (some ⟨w.heap.size, 3, none⟩), .int .i64 (a : Int), .pointer (some ⟨tb, i * 13, none⟩), .bool (decide (t.rv < s.ver a)), .bool (decide (t.rv < s.ver a)), .bool (decide (t.rv < s.ver a)), .bool (decide (t.rv < s.ver a))] (fun w' => Below (w.alloc (.cells #[.int .u8 kind, .int .i64 (i : Int), .int .i64 tx, .int .i64 (a : Int), .int .i64 v, .int .i64 x, .int .u8 why] 50)).heap.size (w.alloc (.cells #[.int .u8 kind, .int .i64 (i : Int), .int .i64 tx, .int .i64 (a : Int), .int .i64 v, .int .i64 x, .int .u8 why] 50)) w')
            focus (simp [putAll, dstOf, Act.put, List.getD]; rfl)
            case hm => kernel_rfl
            case hd => kernel_rfl
            case hb => kernel_rfl
            case hdep => kernel_rfl
            case hsel => kernel_rfl
            case hsz => kernel_rfl
            case h0 => exact ext_drew (ext_refl _)
            case hstep =>
              repeat' (first | exact trivial | (refine And.intro ?_ ?_))
              all_goals (
                intro w' hG
                first
                | (rw [if_neg (ne_true_of_eq_false (by kernel_rfl))]; rfl)
                | (rw [if_pos (by kernel_rfl)]
                   intro K Qp hK
                   have d0 := later hG (cell_alloc t0)
                   have d9 := later hG (cell_alloc t9)
                   have d20 := later hG (HB.out.cell 0 rfl)
                   have d21 := later hG (HB.out.cell 1 rfl)
                   have d22 := later hG (HB.out.cell 2 rfl)
                   have d23 := later hG (HB.out.cell 3 rfl)
                   have d24 := later hG (HB.out.cell 4 rfl)
                   have d25 := later hG (HB.out.cell 5 rfl)
                   have d26 := later hG (HB.out.cell 6 rfl)
                   have hb0 : Below w.heap.size w w' := ext_trans (ext_alloc (ext_refl _) _) hG
                   have HB0 := hid hb0
                   have HGG := hid hG
                   clear hb0 hG c0 c1 c2 c3 c4 t0 t1 t2 t3 t4 t5 t6 t7 t8 t9 t10 t11 t12 f1 ft0 ft3 ft4 ft5 ft6 ft7 ft8 ft9 ft10 ft11 ft12 s0 s1 fs0 fs1
                   go_simp
                   first
                   | exact hK _ HGG.out
                   | (go_wp2_with (first | ((with_reducible refine (HL2.out _ HB0.out).mono ?_); rintro e' w1 ⟨rfl, rfl⟩) | ((with_reducible refine (HO.out _ HB0.out).mono ?_); rintro e' w1 ⟨rfl, hb1⟩) | ((with_reducible refine (HN.out _ HB0.out).mono ?_); rintro e' w1 ⟨rfl, n2, rfl⟩))
                      first | (with_reducible exact HGG.out) | exact ext_trans HGG.out hb1 | exact ext_drewN HGG.out _ | exact hK _ HGG.out | exact hK _ (ext_trans HGG.out hb1) | exact hK _ (ext_drewN HGG.out _))))
            case hdone =>
              intro w' hG
              go_wp2_with fail
              go_meet
              exact ⟨by rw [HR.out], hG⟩
        · have k2 : ((a : Int) == (leastb t.check : Int)) = false := by simp; omega
          have HR : Hid (fitsS s t ⟨kind, i, tx, a, v, x, why⟩ = false) := hid (by
            unfold fitsS; simp only [beq_iff_eq, beq_eq_false_iff_ne] at y1 y2 y3 y4 y5; rw [if_neg y1]; rw [if_neg y2]; rw [if_neg y3]; rw [if_neg y4]; rw [if_pos y5]; rw [decide_eq_false (fun hh => p2 (by have := hh.2; dsimp only at this; omega))]; rfl)
          clear p1 p2
          go_wp2_with fail
          go_quiet ((go_at_call 133; exact Calls.quiet_of_same ((HL2.out _ (ext_drewN (ext_alloc (ext_refl _) _) _)).mono fun e w' ⟨h1, h2⟩ => ⟨h1, h2.symm⟩)))
          go_wp2_with fail
          go_meet
          exact ⟨by rw [HR.out], ext_drewN (ext_refl _) _⟩
      · have k1 : (t.at_ == 4) = false := by simpa using p1
        have HR : Hid (fitsS s t ⟨kind, i, tx, a, v, x, why⟩ = false) := hid (by
          unfold fitsS; simp only [beq_iff_eq, beq_eq_false_iff_ne] at y1 y2 y3 y4 y5; rw [if_neg y1]; rw [if_neg y2]; rw [if_neg y3]; rw [if_neg y4]; rw [if_pos y5]; rw [decide_eq_false (fun hh => p1 hh.1)]; rfl)
        clear p1
        go_wp2_with fail
        go_quiet (fail)
        go_wp2_with fail
        go_meet
        exact ⟨by rw [HR.out], ext_drewN (ext_refl _) _⟩
    · by_cases p1 : t.at_ = 3
      · have k1 : (t.at_ == 3) = true := by simpa using p1
        have HR : Hid (fitsS s t ⟨kind, i, tx, a, v, x, why⟩ = true) := hid (by
          unfold fitsS; simp only [beq_iff_eq, beq_eq_false_iff_ne] at y1 y2 y3 y4 y5 y6; rw [if_neg y1, if_neg y2, if_neg y3, if_neg y4, if_neg y5, if_pos y6]; simp [p1])
        clear p1
        go_wp2_with fail
        go_meet
        exact ⟨by rw [HR.out], by repeat (first | assumption | exact ext_refl _ | refine ext_drew ?_ | refine ext_alloc ?_ _ | refine ext_trans ?_ (by assumption))⟩
      · have k1 : (t.at_ == 3) = false := by simpa using p1
        have HR : Hid (fitsS s t ⟨kind, i, tx, a, v, x, why⟩ = false) := hid (by
          unfold fitsS; simp only [beq_iff_eq, beq_eq_false_iff_ne] at y1 y2 y3 y4 y5 y6; rw [if_neg y1, if_neg y2, if_neg y3, if_neg y4, if_neg y5, if_pos y6]; simp [p1])
        clear p1
        go_wp2_with fail
        go_meet
        exact ⟨by rw [HR.out], by repeat (first | assumption | exact ext_refl _ | refine ext_drew ?_ | refine ext_alloc ?_ _ | refine ext_trans ?_ (by assumption))⟩
  case rest =>
    obtain ⟨rfl, hG⟩ := hcut
    have hb1 : Below w.heap.size w wc := ext_trans (ext_alloc (ext_refl _) _) hG
    have H1 : CkAt wc c tb sb s ev := CkR.below HH.out hb1
    have HI2 := HI.out
    have HE2 := HE.out
    obtain ⟨d0, d1, d2, d3, d4, d5, d6, d7, d8, d9, d10, d11, d12⟩ := H1.t HI2 HE2
    have e0 : wc.frozen? ⟨tb, i * 13, none⟩ = false := H1.th.free _
    have e12 : wc.frozen? ⟨tb, i * 13 + 12, none⟩ = false := H1.th.free _
    have d16 := later hG (HB.out.cell 6 rfl)
    clear HK
    have HK : Hid (CkR wc c tb sb s.ths.length s.sts.length s.vars s.clock ev (s.ths.map thL) (s.sts.map stL)) := hid H1
    have HT1 : Hid (Turn [c, tb, sb] w wc) := hid (Turn.of_below hb1)
    have HB1 := hid hb1
    clear H1 hG hb1 HI2 HE2 c0 c1 c2 c3 c4 t0 t1 t2 t3 t4 t5 t6 t7 t8 t9 t10 t11 t12 f1 ft0 ft3 ft4 ft5 ft6 ft7 ft8 ft9 ft10 ft11 ft12 s0 s1 fs0 fs1
    cases hf : fitsS s t ⟨kind, i, tx, a, v, x, why⟩ with
    | false =>
      have HR := hid (show abortS s t ⟨kind, i, tx, a, v, x, why⟩ = none from if_neg (by rw [hf]; simp))
      clear hf
      go_wp2_with fail
      go_ret
      exact stepP_no HR.out HH.out rfl HB1.out
    | true =>
      by_cases po : t.owned = 0
      · have k9 : ((t.owned : Int) == 0) = true := by simp [po]
        have HR : Hid (abortS s t ⟨kind, i, tx, a, v, x, why⟩ = some (s.setTh i { t with at_ := 0, full := decide (why = 6) })) := hid (by
          unfold abortS; rw [if_pos hf]; simp only [if_pos po])
        clear hf po
        go_wp2_with fail
        go_region
        all_goals (
          go_wp2_with fail
          go_ret
          (apply stepP_yes HR.out rfl; (focus (repeat (first | (with_reducible exact HK.out) | (with_reducible apply CkR.drew) | (with_reducible apply CkR.alloc) | (with_reducible apply CkR.drewN) | (with_reducible apply CkR.set_t0; any_goals (exact HI.out)) | (with_reducible apply CkR.set_t; any_goals (first | (exact HI.out) | decide)) | (with_reducible apply CkR.set_s0; any_goals (exact HA.out)) | (with_reducible apply CkR.set_s; any_goals (first | (exact HA.out) | decide)) | (with_reducible apply CkR.set_clock)))); (exact ⟨rfl, rfl⟩); ((try simp only [modify_modify]); exact map_modify' _ _ _ _ _ _ HG.out rfl); rfl; (repeat (first | (with_reducible exact HT1.out) | (with_reducible exact Turn.refl _ _) | (with_reducible refine Turn.drew ?_) | (with_reducible refine Turn.alloc ?_ _) | (with_reducible refine Turn.drewN ?_ _) | (with_reducible refine Turn.setCell ?_ (Or.inl (by simp)) _)))))
      · have k9 : ((t.owned : Int) == 0) = false := by simp; omega
        have HR : Hid (abortS s t ⟨kind, i, tx, a, v, x, why⟩ = some (s.setTh i { t with at_ := 7, full := decide (why = 6) })) := hid (by
          unfold abortS; rw [if_pos hf]; simp only [if_neg po])
        clear hf po
        go_wp2_with fail
        go_region
        all_goals (
          go_wp2_with fail
          go_ret
          (apply stepP_yes HR.out rfl; (focus (repeat (first | (with_reducible exact HK.out) | (with_reducible apply CkR.drew) | (with_reducible apply CkR.alloc) | (with_reducible apply CkR.drewN) | (with_reducible apply CkR.set_t0; any_goals (exact HI.out)) | (with_reducible apply CkR.set_t; any_goals (first | (exact HI.out) | decide)) | (with_reducible apply CkR.set_s0; any_goals (exact HA.out)) | (with_reducible apply CkR.set_s; any_goals (first | (exact HA.out) | decide)) | (with_reducible apply CkR.set_clock)))); (exact ⟨rfl, rfl⟩); ((try simp only [modify_modify]); exact map_modify' _ _ _ _ _ _ HG.out rfl); rfl; (repeat (first | (with_reducible exact HT1.out) | (with_reducible exact Turn.refl _ _) | (with_reducible refine Turn.drew ?_) | (with_reducible refine Turn.alloc ?_ _) | (with_reducible refine Turn.drewN ?_ _) | (with_reducible refine Turn.setCell ?_ (Or.inl (by simp)) _)))))
end
end Go.Proofs.YtnblhodhkifeeaaGreatDoor
/-
  The checker; walks: Wake.
-/
namespace Go.Proofs.YtnblhodhkifeeaaGreatDoor
set_option linter.unusedVariables false
open Go Go.RowKit
section
variable {w : World} {c tb sb : Nat} {s : Sh} {ev : Nat}
def wakeB (s : Sh) (t : Th) (i : Nat) : Bool := t.read.testBit i && decide (s.own i = -1 ∧ t.rv < s.ver i)
theorem wakesS_yes {s : Sh} {t : Th} {k : Nat} (hk : k < s.sts.length) (h : wakeB s t k = true) : wakesS s t = true :=
  List.any_eq_true.2 ⟨k, List.mem_range.2 hk, h⟩
theorem wakesS_no {s : Sh} {t : Th} (h : ∀ k, k < s.sts.length → wakeB s t k = false) : wakesS s t = false := by
  unfold wakesS
  rw [List.any_eq_false]
  intro k hk
  have := h k (List.mem_range.1 hk)
  unfold wakeB at this
  rw [this]; simp
set_option maxRecDepth 100000 in
set_option maxHeartbeats 4000000 in
theorem wake_any (h : CkAt w c tb sb s ev) (i : Nat) (hi : i < s.ths.length) {t : Th} (he : s.ths.getD i Th.zero = t) (hm : t.read < 4294967296) (hn32 : s.sts.length ≤ 32) (kind tx at_ v x why : Int) :
    Calls Tryz.prog 86 #[.pointer (some ⟨c, 0, none⟩), .pointer (some ⟨tb, i * 13, none⟩), .agg #[.int .u8 kind, .int .i64 (i : Int), .int .i64 tx, .int .i64 at_, .int .i64 v, .int .i64 x, .int .u8 why]] w
      (StepP w c tb sb s ev (wakeS s t ⟨kind, i, tx, at_, v, x, why⟩)) := by
  obtain ⟨c0, c1, c2, c3, c4⟩ := h.cells
  obtain ⟨t0, t1, t2, t3, t4, t5, t6, t7, t8, t9, t10, t11, t12⟩ := h.t hi he
  have f1 : w.frozen? ⟨c, 1, none⟩ = false := h.ck.free 1
  have ft0 : w.frozen? ⟨tb, i * 13, none⟩ = false := h.th.free _
  have ft3 : w.frozen? ⟨tb, i * 13 + 3, none⟩ = false := h.th.free _
  have ft4 : w.frozen? ⟨tb, i * 13 + 4, none⟩ = false := h.th.free _
  have ft5 : w.frozen? ⟨tb, i * 13 + 5, none⟩ = false := h.th.free _
  have ft6 : w.frozen? ⟨tb, i * 13 + 6, none⟩ = false := h.th.free _
  have ft7 : w.frozen? ⟨tb, i * 13 + 7, none⟩ = false := h.th.free _
  have ft8 : w.frozen? ⟨tb, i * 13 + 8, none⟩ = false := h.th.free _
  have ft9 : w.frozen? ⟨tb, i * 13 + 9, none⟩ = false := h.th.free _
  have ft10 : w.frozen? ⟨tb, i * 13 + 10, none⟩ = false := h.th.free _
  have ft11 : w.frozen? ⟨tb, i * 13 + 11, none⟩ = false := h.th.free _
  have ft12 : w.frozen? ⟨tb, i * 13 + 12, none⟩ = false := h.th.free _
  have hcl := lt_of_cell c0
  have htl := lt_of_cell t0
  have HH := hid h
  have HK : Hid (CkR w c tb sb s.ths.length s.sts.length s.vars s.clock ev (s.ths.map thL) (s.sts.map stL)) := hid h
  have HI := hid hi
  have hne := h.ne
  have HG : Hid (s.ths[i]? = some t) := hid (get_of_getD hi he)
  have HE := hid he
  have HN := hid fun W (hW : Below w.heap.size w W) (a : Nat) (ha : a < s.sts.length) => newer_any (s := s) (ev := ev) (CkR.below h hW) a ha hi he
  have HF := hid fun W (hW : Below w.heap.size w W) (a : Nat) (ha : a < s.sts.length) => free_any (s := s) (ev := ev) (CkR.below h hW) a ha
  clear h he hi
  by_cases p1 : t.at_ = 8
  case neg =>
    have k1 : (t.at_ != 8) = true := by simpa using p1
    have HR := hid (show wakeS s t ⟨kind, i, tx, at_, v, x, why⟩ = none from if_neg (fun hh => p1 hh.1))
    clear p1
    (go_enter Tryz.func86, Tryz.ntmps86; go_wp2_with fail; go_ret; exact stepP_no HR.out HH.out rfl (by repeat (first | assumption | exact ext_refl _ | refine ext_drew ?_ | refine ext_alloc ?_ _ | refine ext_trans ?_ (by assumption))))
  have k1 : (t.at_ != 8) = false := by simpa using p1
  have HP := hid p1
  have gl : (s.sts.length : Int) ≤ 32 := by omega
  clear p1 hn32
  have hb0 : Below w.heap.size w (w.alloc (.cells #[.int .u8 kind, .int .i64 (i : Int), .int .i64 tx, .int .i64 at_, .int .i64 v, .int .i64 x, .int .u8 why] 50)) := ext_alloc (ext_refl _) _
  have HB0 := hid hb0
  clear hb0
  go_enter Tryz.func86, Tryz.ntmps86
  go_wp2_with fail
  go_loopw [18] (fun n wr => ∃ k : Nat, k ≤ s.sts.length ∧ n = .int .i64 k ∧ Hid (∀ j, j < k → wakeB s t j = false) ∧ Below w.heap.size w wr) (fun n _ => s.sts.length - (intOf n).toNat)
  case atStart => exact ⟨0, Nat.zero_le _, rfl, hid (fun j hj => by omega), HB0.out⟩
  case round =>
    obtain ⟨k, hk, rfl, HJ, hb⟩ := hrel
    by_cases hlt : k < s.sts.length
    · have d0 := later hb t0
      have d6 := later hb t6
      have hbt := shr_bit t.read k hm
      have gk0 : (0 : Int) ≤ (k : Int) := by omega
      have gk1 : (k : Int) < (s.sts.length : Int) := by omega
      have HKK := hid hlt
      have HBB := hid hb
      have H1 : CkAt wr c tb sb s ev := CkR.below HH.out hb
      have e0 : wr.frozen? ⟨tb, i * 13, none⟩ = false := H1.th.free _
      clear HK
      have HK : Hid (CkR wr c tb sb s.ths.length s.sts.length s.vars s.clock ev (s.ths.map thL) (s.sts.map stL)) := hid H1
      have HT1 : Hid (Turn [c, tb, sb] w wr) := hid (Turn.of_below hb)
      clear H1 hb hlt hk c0 c1 c2 c3 c4 t0 t1 t2 t3 t4 t5 t6 t7 t8 t9 t10 t11 t12 f1 ft0 ft3 ft4 ft5 ft6 ft7 ft8 ft9 ft10 ft11 ft12
      by_cases q1 : t.read.testBit k = true
      · rw [if_pos q1] at hbt
        by_cases q2 : s.own k = -1
        · have k2 : (s.own (k : Int) == -1) = true := by simpa using q2
          by_cases q3 : t.rv < s.ver k
          · have HR := hid (show wakeS s t ⟨kind, i, tx, at_, v, x, why⟩ = _ from if_pos ⟨HP.out, wakesS_yes HKK.out (by unfold wakeB; rw [q1, decide_eq_true ⟨q2, q3⟩]; rfl)⟩)
            clear q1 q2
            go_wp2_with (first | ((with_reducible refine (HF.out _ HBB.out k HKK.out).mono ?_); rintro e' w1 ⟨rfl, rfl⟩) | ((with_reducible refine (HN.out _ HBB.out k HKK.out).mono ?_); rintro e' w1 ⟨rfl, n2, rfl⟩))
            go_ret
            (apply stepP_yes HR.out rfl; (focus (repeat (first | (with_reducible exact HK.out) | (with_reducible apply CkR.drew) | (with_reducible apply CkR.alloc) | (with_reducible apply CkR.drewN) | (with_reducible apply CkR.set_t0; any_goals (exact HI.out)) | (with_reducible apply CkR.set_t; any_goals (first | (exact HI.out) | decide)) | (with_reducible apply CkR.set_s0; any_goals (exact HA.out)) | (with_reducible apply CkR.set_s; any_goals (first | (exact HA.out) | decide)) | (with_reducible apply CkR.set_clock)))); (exact ⟨rfl, rfl⟩); ((try simp only [modify_modify]); exact map_modify' _ _ _ _ _ _ HG.out rfl); rfl; (repeat (first | (with_reducible exact HT1.out) | (with_reducible exact Turn.refl _ _) | (with_reducible refine Turn.drew ?_) | (with_reducible refine Turn.alloc ?_ _) | (with_reducible refine Turn.drewN ?_ _) | (with_reducible refine Turn.setCell ?_ (Or.inl (by simp)) _))))
          · have k3 : decide (t.rv < s.ver (k : Int)) = false := decide_eq_false q3
            have HW : Hid (wakeB s t k = false) := hid (by unfold wakeB; rw [decide_eq_false (fun hh => q3 hh.2), Bool.and_false])
            clear q1 q2 q3
            go_wp2_with (first | ((with_reducible refine (HF.out _ HBB.out k HKK.out).mono ?_); rintro e' w1 ⟨rfl, rfl⟩) | ((with_reducible refine (HN.out _ HBB.out k HKK.out).mono ?_); rintro e' w1 ⟨rfl, n2, rfl⟩))
            go_roundw
            case rel => exact ⟨k + 1, HKK.out, by go_num, hid (fun j hj => by
              by_cases hjk : j = k
              · rw [hjk]; exact HW.out
              · exact HJ.out j (by omega)), ext_drewN HBB.out _⟩
            case measure => (have := HKK.out; simp [intOf]; omega)
        · have k2 : (s.own (k : Int) == -1) = false := by simpa using q2
          have HW : Hid (wakeB s t k = false) := hid (by unfold wakeB; rw [decide_eq_false (fun hh => q2 hh.1), Bool.and_false])
          clear q1 q2
          go_wp2_with ((with_reducible refine (HF.out _ HBB.out k HKK.out).mono ?_); rintro e' w1 ⟨rfl, rfl⟩)
          go_roundw
          case rel => exact ⟨k + 1, HKK.out, by go_num, hid (fun j hj => by
              by_cases hjk : j = k
              · rw [hjk]; exact HW.out
              · exact HJ.out j (by omega)), HBB.out⟩
          case measure => (have := HKK.out; simp [intOf]; omega)
      · rw [if_neg q1] at hbt
        have HW : Hid (wakeB s t k = false) := hid (by unfold wakeB; rw [Bool.eq_false_iff.2 q1, Bool.false_and])
        clear q1
        go_wp2_with fail
        go_roundw
        case rel => exact ⟨k + 1, HKK.out, by go_num, hid (fun j hj => by
              by_cases hjk : j = k
              · rw [hjk]; exact HW.out
              · exact HJ.out j (by omega)), HBB.out⟩
        case measure => (have := HKK.out; simp [intOf]; omega)
    · obtain rfl : k = s.sts.length := by omega
      have HR := hid (show wakeS s t ⟨kind, i, tx, at_, v, x, why⟩ = none from if_neg (fun hh => by rw [wakesS_no HJ.out] at hh; cases hh.2))
      go_wp2_with fail
      go_ret
      exact stepP_no HR.out HH.out rfl hb
end
end Go.Proofs.YtnblhodhkifeeaaGreatDoor
/-
  The checker: what Next does, said.
-/
namespace Go.Proofs.YtnblhodhkifeeaaGreatDoor
set_option linter.unusedVariables false
open Go Go.RowKit
def NextP (w : World) (c tb sb : Nat) (s : Sh) (ev : Nat) (r : Option Sh) (e : Ending) (w' : World) : Prop :=
  (∃ s', r = some s' ∧ e = .returned (.int .i64 0) ∧ CkAt w' c tb sb s' (ev + 1) ∧ Turn [c, tb, sb] w w') ∨
  (r = none ∧ e = .returned (.int .i64 4) ∧ CkAt w' c tb sb s ev ∧ Turn [c, tb, sb] w w')
theorem there_blk {w : World} {b : Nat} {cs : Array Value} {t : TypeId} (h : Blk w b cs t) {n : Nat} (hn : n = cs.size) : w.there b 0 n := by
  subst hn
  intro j hj
  rw [Nat.zero_add]
  exact ⟨by rw [h.cell j (v := cs[j]) (by simp [hj])]; rfl, h.free j⟩
theorem setCells_below {B b : Nat} (hb : B ≤ b) : ∀ (vs : List Value) (o : Nat) (w : World), Below B w (w.setCells b o vs)
  | [], _, w => Below.refl _ _
  | v :: r, o, w => ((Below.refl B w).setCell (p := ⟨b, o, none⟩) hb v).trans (setCells_below hb r (o + 1) _)
theorem setCells_cell {w : World} {b : Nat} {cs : Array Value} {t : TypeId} (h : Blk w b cs t) (vs : List Value) (hl : vs.length = cs.size) (k : Nat) {v : Value} (hv : vs[k]? = some v) : (w.setCells b 0 vs).cell? ⟨b, k, none⟩ = some v := by
  obtain ⟨hk, rfl⟩ := List.getElem?_eq_some_iff.1 hv
  have := World.cell?_setCells_in b vs 0 w (fun j hj => by rw [Nat.zero_add, h.cell j (v := cs[j]'(by omega)) (by simp)]; rfl) k hk
  rw [Nat.zero_add] at this
  exact this
end Go.Proofs.YtnblhodhkifeeaaGreatDoor
