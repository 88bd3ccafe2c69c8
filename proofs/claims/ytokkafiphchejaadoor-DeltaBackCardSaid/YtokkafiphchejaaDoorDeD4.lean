/-
  Events as bytes, one behind the other. Nothing of the program.
-/
import Derived.Test.YtokkafiphchejaaDoorDeD3
namespace Go.Proofs.YtokkafiphchejaaDoor
set_option linter.unusedVariables false
def cAll (c : Cdr) (l : List Ev) : Cdr := l.foldl knowsC c
def bytesAll (T : Int) (c : Cdr) : List Ev → List Nat
  | [] => []
  | e :: r => bytesC T c e ++ bytesAll T (knowsC c e) r
def ToldOk (T V S : Int) (c : Cdr) : List Ev → Prop
  | [] => True
  | e :: r => (tellsC T V S c e = true ∧ -9223372036854775808 ≤ e.x ∧ e.x ≤ 9223372036854775807) ∧ ToldOk T V S (knowsC c e) r
theorem cAll_app (c : Cdr) (l m : List Ev) : cAll c (l ++ m) = cAll (cAll c l) m := List.foldl_append ..
theorem bytesAll_app (T : Int) : ∀ (l m : List Ev) (c : Cdr), bytesAll T c (l ++ m) = bytesAll T c l ++ bytesAll T (cAll c l) m
  | [], m, c => rfl
  | e :: l, m, c => by
    rw [List.cons_append, bytesAll, bytesAll_app T l m (knowsC c e), bytesAll, List.append_assoc]
    rfl
theorem told_app (T V S : Int) : ∀ (l m : List Ev) (c : Cdr), ToldOk T V S c (l ++ m) ↔ ToldOk T V S c l ∧ ToldOk T V S (cAll c l) m
  | [], m, c => by simp [ToldOk, cAll]
  | e :: l, m, c => by
    rw [List.cons_append, ToldOk, ToldOk, told_app T V S l m (knowsC c e)]
    exact ⟨fun h => ⟨⟨h.1, h.2.1⟩, h.2.2⟩, fun h => ⟨h.1.1, h.1.2, h.2⟩⟩
theorem told_ok {T V S : Int} : ∀ (l : List Ev) {c : Cdr}, OkC T c → ToldOk T V S c l → OkC T (cAll c l)
  | [], c, h, _ => h
  | e :: l, c, h, hl => told_ok l (okC_knows h hl.1.1 hl.1.2) hl.2
/-- One event more is told. -/
theorem told_snoc {T V S : Int} {c : Cdr} {l : List Ev} {e : Ev} (h : ToldOk T V S c l) (ht : tellsC T V S (cAll c l) e = true) (hx : -9223372036854775808 ≤ e.x ∧ e.x ≤ 9223372036854775807) :
    ToldOk T V S c (l ++ [e]) ∧ bytesAll T c (l ++ [e]) = bytesAll T c l ++ bytesC T (cAll c l) e ∧ cAll c (l ++ [e]) = knowsC (cAll c l) e := by
  refine ⟨(told_app T V S l [e] c).2 ⟨h, ⟨ht, hx⟩, trivial⟩, ?_, cAll_app c l [e]⟩
  rw [bytesAll_app, bytesAll, bytesAll, List.append_nil]
/-- The bytes of all that was told are few. -/
theorem bytesAll_len {T V S : Int} : ∀ (l : List Ev) {c : Cdr}, OkC T c → ToldOk T V S c l → (bytesAll T c l).length ≤ 12 * l.length
  | [], c, _, _ => by simp [bytesAll]
  | e :: l, c, h, hl => by
    have h1 := bytes_len h hl.1.1
    have h2 := bytesAll_len l (okC_knows h hl.1.1 hl.1.2) hl.2
    rw [bytesAll, List.length_append, List.length_cons]
    omega
/-- Reading goes event by event. -/
theorem read_at {T V S : Int} {c : Cdr} {a b : List Ev} {e : Ev} (hc : OkC T c) (h : ToldOk T V S c (a ++ e :: b)) :
    readC T V S (cAll c a) ⟨bytesAll T c (a ++ e :: b), (bytesAll T c a).length, 0⟩ = (e, 0, ⟨bytesAll T c (a ++ e :: b), (bytesAll T c (a ++ [e])).length, 0⟩, cAll c (a ++ [e])) := by
  obtain ⟨h1, h2⟩ := (told_app T V S a (e :: b) c).1 h
  have h3 := read_bytes (pre := bytesAll T c a) (rest := bytesAll T (knowsC (cAll c a) e) b) (told_ok a hc h1) h2.1.1 h2.1.2
  have h4 : bytesAll T c (a ++ e :: b) = bytesAll T c a ++ (bytesC T (cAll c a) e ++ bytesAll T (knowsC (cAll c a) e) b) := by rw [bytesAll_app, bytesAll]
  rw [h4, h3, (told_snoc h1 h2.1.1 h2.1.2).2.1, (told_snoc h1 h2.1.1 h2.1.2).2.2]
/-- A load of what is known there, of the last thread, has three bytes; a Free two. -/
theorem small_load {c : Cdr} {t a x : Int} (hl : c.last = t) (ht : 0 ≤ t ∧ t < 6) (ha : 0 ≤ a ∧ a < 32) (hx : c.x a = x) : (bytesC 6 c ⟨3, t, 0, a, 0, x, 0⟩).length = 3 := by
  have h1 : firstC 6 c ⟨3, t, 0, a, 0, x, 0⟩ = 12 := by unfold firstC; dsimp only; rw [hl]; omega
  have h2 : numsC c ⟨3, t, 0, a, 0, x, 0⟩ = [a.toNat, zigZ (w64 (x - c.x a))] := rfl
  unfold bytesC
  rw [h1, h2, hx, show w64 (x - x) = 0 by unfold w64; omega]
  simp only [List.flatMap_cons, List.flatMap_nil, List.append_nil, List.length_append]
  rw [putN_one _ (by decide), putN_one _ (by omega), putN_one _ (by decide)]
theorem small_free {c : Cdr} {t a : Int} (hl : c.last = t) (ht : 0 ≤ t ∧ t < 6) (ha : 0 ≤ a ∧ a < 32) : (bytesC 6 c ⟨9, t, 0, a, 0, 0, 0⟩).length = 2 := by
  have h1 : firstC 6 c ⟨9, t, 0, a, 0, 0, 0⟩ = 48 := by unfold firstC; dsimp only; rw [hl]; omega
  have h2 : numsC c ⟨9, t, 0, a, 0, 0, 0⟩ = [a.toNat] := rfl
  unfold bytesC
  rw [h1, h2]
  simp only [List.flatMap_cons, List.flatMap_nil, List.append_nil, List.length_append]
  rw [putN_one _ (by decide), putN_one _ (by omega)]
end Go.Proofs.YtokkafiphchejaaDoor
