/-
  Attempts in memory, read as data: pairs, attempts, a slice of them. Nothing of the program.
-/
import Derived.Test.YtcdgfnocjnampaaSlF
import Derived.Test.YtcdgfnocjnampaaKit
namespace Go.Proofs.Ytcdgfnocjnampaa
set_option linter.unusedVariables false
set_option linter.unusedSimpArgs false
set_option linter.unusedVariables false
open Go Go.RowKit
def B64 (n : Int) : Prop := -9223372036854775808 ≤ n ∧ n ≤ 9223372036854775807
def RdPairs (w : World) (l : List (Int × Int)) (v : Value) : Prop :=
  ∃ a cap, v = .slice a l.length cap ∧ l.length ≤ 9223372036854775807 ∧ (∀ p ∈ l, B64 p.1 ∧ B64 p.2) ∧ (l ≠ [] → ∃ b o, a = some ⟨b, o, none⟩ ∧ ∀ k (h : k < l.length), w.cell? ⟨b, o + k * 2, none⟩ = some (.int .i64 l[k].1) ∧ w.cell? ⟨b, o + k * 2 + 1, none⟩ = some (.int .i64 l[k].2))
structure AttB (a : Att) : Prop where
  th : B64 a.th
  tx : B64 a.tx
  from_ : B64 a.from_
  to_ : B64 a.to_
  rv : B64 a.rv
  wv : B64 a.wv
structure AttC (w : World) (b o : Nat) (a : Att) (r u : Value) : Prop where
  ok : AttB a
  c0 : w.cell? ⟨b, o, none⟩ = some (.int .i64 a.th)
  c1 : w.cell? ⟨b, o + 1, none⟩ = some (.int .i64 a.tx)
  c2 : w.cell? ⟨b, o + 2, none⟩ = some (.int .i64 a.from_)
  c3 : w.cell? ⟨b, o + 3, none⟩ = some (.int .i64 a.to_)
  c4 : w.cell? ⟨b, o + 4, none⟩ = some (.int .i64 a.rv)
  c5 : w.cell? ⟨b, o + 5, none⟩ = some (.int .i64 a.wv)
  c6 : w.cell? ⟨b, o + 6, none⟩ = some (.bool a.com)
  c7 : w.cell? ⟨b, o + 7, none⟩ = some r
  c8 : w.cell? ⟨b, o + 8, none⟩ = some u
  reads : RdPairs w a.reads r
  writes : RdPairs w a.writes u
def RdAtts (w : World) (L : List Att) (v : Value) : Prop :=
  ∃ a cap, v = .slice a L.length cap ∧ L.length ≤ 9223372036854775807 ∧ (L ≠ [] → ∃ b o, a = some ⟨b, o, none⟩ ∧ ∀ k (h : k < L.length), ∃ r u, AttC w b (o + k * 9) L[k] r u)
theorem RdPairs.below {w w' : World} (hb : Below w.heap.size w w') {l : List (Int × Int)} {v : Value} (h : RdPairs w l v) : RdPairs w' l v := by
  obtain ⟨a, cap, h1, h2, h3, h4⟩ := h
  refine ⟨a, cap, h1, h2, h3, fun hn => ?_⟩
  obtain ⟨b, o, h5, h6⟩ := h4 hn
  exact ⟨b, o, h5, fun k hk => ⟨later hb (h6 k hk).1, later hb (h6 k hk).2⟩⟩
theorem AttC.below {w w' : World} (hb : Below w.heap.size w w') {b o : Nat} {a : Att} {r u : Value} (h : AttC w b o a r u) : AttC w' b o a r u :=
  ⟨h.ok, later hb h.c0, later hb h.c1, later hb h.c2, later hb h.c3, later hb h.c4, later hb h.c5, later hb h.c6, later hb h.c7, later hb h.c8, h.reads.below hb, h.writes.below hb⟩
theorem RdAtts.below {w w' : World} (hb : Below w.heap.size w w') {L : List Att} {v : Value} (h : RdAtts w L v) : RdAtts w' L v := by
  obtain ⟨a, cap, h1, h2, h4⟩ := h
  refine ⟨a, cap, h1, h2, fun hn => ?_⟩
  obtain ⟨b, o, h5, h6⟩ := h4 hn
  refine ⟨b, o, h5, fun k hk => ?_⟩
  obtain ⟨r, u, h7⟩ := h6 k hk
  exact ⟨r, u, h7.below hb⟩
theorem RdPairs.shape {w : World} {l : List (Int × Int)} {v : Value} (h : RdPairs w l v) : ∃ a cap, v = .slice a l.length cap := by
  obtain ⟨a, cap, h1, _⟩ := h
  exact ⟨a, cap, h1⟩
/-- What lies below a number stays, if all but what is not below it stays. -/
theorem low_cell {n₀ : Nat} {w w' : World} (hb : Below n₀ w w') {b o : Nat} {v : Value} (hl : b < n₀) (h : w.cell? ⟨b, o, none⟩ = some v) : w'.cell? ⟨b, o, none⟩ = some v := by
  rw [hb.cell (p := ⟨b, o, none⟩) hl]; exact h
end Go.Proofs.Ytcdgfnocjnampaa
