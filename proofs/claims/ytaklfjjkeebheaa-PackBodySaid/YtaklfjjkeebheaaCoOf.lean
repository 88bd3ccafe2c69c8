/-
  Walks: code.of.
-/
import Derived.Test.YtaklfjjkeebheaaPbC
import Derived.Deep.MidRow
import Derived.Laws.Tables
import Derived.Great.Walk
namespace Go.Proofs.Ytaklfjjkeebheaa
set_option linter.unusedVariables false
set_option linter.unusedSimpArgs false
set_option linter.unusedVariables false
open Go Go.RowKit
/-- What a Kind asks: is, to, a, b, body, other. -/
structure Asks where
  is_ : Bool
  to_ : Bool
  a_ : Bool
  b_ : Bool
  body_ : Bool
  other_ : Bool
def asksS (k : Int) : Asks :=
  if k = 1 then ⟨true, true, true, false, false, false⟩ else if k = 2 then ⟨true, true, true, false, false, false⟩ else if k = 3 then ⟨true, false, true, true, false, false⟩ else
  if k = 4 then ⟨true, false, true, false, true, true⟩ else if k = 5 then ⟨true, false, true, false, true, false⟩ else if k = 6 then ⟨true, false, false, false, false, false⟩ else
  if k = 7 then ⟨true, false, false, false, true, true⟩ else if k = 8 then ⟨true, false, true, false, false, false⟩ else ⟨false, false, false, false, false, false⟩
def asksV (x : Asks) : Value := .agg #[.bool x.is_, .bool x.to_, .bool x.a_, .bool x.b_, .bool x.body_, .bool x.other_]
def tblOf : Array Value := #[.bool false, .bool false, .bool false, .bool false, .bool false, .bool false,
  .bool true, .bool true, .bool true, .bool false, .bool false, .bool false,
  .bool true, .bool true, .bool true, .bool false, .bool false, .bool false,
  .bool true, .bool false, .bool true, .bool true, .bool false, .bool false,
  .bool true, .bool false, .bool true, .bool false, .bool true, .bool true,
  .bool true, .bool false, .bool true, .bool false, .bool true, .bool false,
  .bool true, .bool false, .bool false, .bool false, .bool false, .bool false,
  .bool true, .bool false, .bool false, .bool false, .bool true, .bool true,
  .bool true, .bool false, .bool true, .bool false, .bool false, .bool false]
theorem setCells_low {B b : Nat} (hb : B ≤ b) : ∀ (vs : List Value) (o : Nat) (w : World), Below B w (w.setCells b o vs)
  | [], _, w => Below.refl _ _
  | v :: r, o, w => ((Below.refl B w).setCell (p := ⟨b, o, none⟩) hb v).trans (setCells_low hb r (o + 1) _)
theorem setCells_at {w : World} {b : Nat} {cs : Array Value} {t : TypeId} (h : Blk w b cs t) (vs : List Value) (hl : vs.length = cs.size) (k : Nat) {v : Value} (hv : vs[k]? = some v) : (w.setCells b 0 vs).cell? ⟨b, k, none⟩ = some v := by
  obtain ⟨hk, rfl⟩ := List.getElem?_eq_some_iff.1 hv
  have := World.cell?_setCells_in b vs 0 w (fun j hj => by rw [Nat.zero_add, h.cell j (v := cs[j]'(by omega)) (by simp)]; rfl) k hk
  rw [Nat.zero_add] at this
  exact this
theorem setCells_far {b : Nat} : ∀ (vs : List Value) (o : Nat) (w : World) {b' : Nat} {cs : Array Value} {t : TypeId}, Blk w b' cs t → b' ≠ b → Blk (w.setCells b o vs) b' cs t
  | [], _, w, _, _, _, h, _ => h
  | v :: r, o, w, b', cs, t, h, hne => setCells_far r (o + 1) _ (h.set_other ⟨b, o, none⟩ v hne) hne
theorem there_of {w : World} {b n : Nat} {cs : Array Value} {t : TypeId} (h : Blk w b cs t) (hn : cs.size = n) : w.there b 0 n := by
  subst hn
  intro j hj
  rw [Nat.zero_add]
  exact ⟨by rw [h.cell j (v := cs[j]) (by simp)]; rfl, h.free j⟩
def zeroOf : Array Value := (List.replicate 54 (Value.bool false)).toArray
/-- Builds, one behind the other, by evaluation. -/
def evalB (P : Program) : Nat → List Oper → Act → Option Act
  | 0, _, a => some a
  | _ + 1, [], _ => none
  | n + 1, o :: r, a =>
    match o.guard, o.op with
    | none, .build t parts =>
      match P.built t (parts.map fun (i, x) => (i, a.eval x)).toList with
      | some c => evalB P n r (a.put o.dst (.agg c))
      | none => none
    | _, _ => none
theorem wpList_evalB {P : Program} {o0 : Array Oper} {Q : Exit → Act → World → Prop} {w : World} : ∀ (n : Nat) (ops : List Oper) (a a' : Act), evalB P n ops a = some a' → wpList P o0 Q (ops.drop n) a' w → wpList P o0 Q ops a w
  | 0, _, a, a', h, k => by simp only [evalB, Option.some.injEq] at h; subst h; simpa using k
  | _ + 1, [], _, _, h, _ => by simp [evalB] at h
  | n + 1, o :: r, a, a', h, k => by
    unfold evalB at h
    split at h
    · rename_i t parts hg ho
      split at h
      · rename_i c hc
        refine wpList_build hg t parts ho (by rw [hc]; rfl) ?_
        rw [hc]
        exact wpList_evalB n r _ a' h (by simpa using k)
      · cases h
    · cases h
set_option maxRecDepth 100000 in
set_option maxHeartbeats 4000000 in
theorem of_any (k : Int) (h0 : 0 ≤ k) (h1 : k ≤ 255) (w : World) :
    Calls Try.prog 67 #[.int .u8 k] w fun e' w' => e' = .returned (asksV (asksS k)) ∧ Below w.heap.size w w' := by
  go_enter Try.func67, Try.ntmps67
  apply wp_seq_k; intro K0 hK0
  apply wp_region_lit
  refine Go.Great.wpList_allocTo rfl (some 2) rfl (.pointer (some ⟨w.heap.size, 0, none⟩)) (.cells #[.bool false, .bool false, .bool false, .bool false, .bool false, .bool false] 130 (0, 0)) (by as_aux_lemma => kernel_rfl) ?_
  apply wpList_nil
  refine hK0 _ _ ?_
  clear hK0 K0
  apply wp_seq_k; intro K0 hK0
  apply wp_region_lit
  obtain ⟨W1, hW1⟩ : ∃ W1, W1 = w.alloc (.cells #[.bool false, .bool false, .bool false, .bool false, .bool false, .bool false] 130 (0, 0)) := ⟨_, rfl⟩
  have b1 : Blk W1 w.heap.size #[.bool false, .bool false, .bool false, .bool false, .bool false, .bool false] 130 := hW1 ▸ Blk.new _ _ _
  have hbl : Below w.heap.size w W1 := hW1 ▸ ext_alloc (ext_refl _) _
  have hsz : W1.heap.size = w.heap.size + 1 := by rw [hW1]; exact World.size_alloc _ _
  rw [← hW1]
  refine wpList_evalB 9 _ _ { tmps := #[.int .u8 k, undef, .pointer (some ⟨w.heap.size, 0, none⟩), undef, .agg #[.bool true, .bool true, .bool true, .bool false, .bool false, .bool false], .agg #[.bool true, .bool true, .bool true, .bool false, .bool false, .bool false], .agg #[.bool true, .bool false, .bool true, .bool true, .bool false, .bool false], .agg #[.bool true, .bool false, .bool true, .bool false, .bool true, .bool true], .agg #[.bool true, .bool false, .bool true, .bool false, .bool true, .bool false], .agg #[.bool true, .bool false, .bool false, .bool false, .bool false, .bool false], .agg #[.bool true, .bool false, .bool false, .bool false, .bool true, .bool true], .agg #[.bool true, .bool false, .bool true, .bool false, .bool false, .bool false], .agg tblOf, undef, undef, undef, undef, undef, undef, undef], defers := [] } (by as_aux_lemma => kernel_rfl) ?_
  refine Go.Great.wpList_allocTo rfl (some 3) rfl (.pointer (some ⟨W1.heap.size, 0, none⟩)) (.cells zeroOf 138 (0, 0)) (by as_aux_lemma => kernel_rfl) ?_
  have b2 : Blk (W1.alloc (.cells zeroOf 138 (0, 0))) W1.heap.size zeroOf 138 := Blk.new _ _ _
  have hb12 := b1.alloc (.cells zeroOf 138 (0, 0))
  have hbl2 : Below w.heap.size w (W1.alloc (.cells zeroOf 138 (0, 0))) := hbl.trans ((Below.refl _ _).alloc (by omega) _)
  refine wpList_store_mid rfl 138 (.tmp 3) (.tmp 12) rfl W1.heap.size 0 tblOf (by as_aux_lemma => kernel_rfl) (by as_aux_lemma => kernel_rfl) (there_of b2 (by as_aux_lemma => kernel_rfl)) (by as_aux_lemma => kernel_rfl) (by as_aux_lemma => kernel_rfl) ?_
  have hbl3 : Below w.heap.size w ((W1.alloc (.cells zeroOf 138 (0, 0))).setCells W1.heap.size 0 tblOf.toList) := hbl2.trans (setCells_low (by omega) _ 0 _)
  have hb13 := setCells_far tblOf.toList 0 _ hb12 (show w.heap.size ≠ W1.heap.size by omega)
  have hat : ∀ (i : Nat) (v : Value), tblOf.toList[i]? = some v → ((W1.alloc (.cells zeroOf 138 (0, 0))).setCells W1.heap.size 0 tblOf.toList).cell? ⟨W1.heap.size, i, none⟩ = some v := fun i v h => setCells_at b2 tblOf.toList (by as_aux_lemma => kernel_rfl) i h
  generalize (W1.alloc (.cells zeroOf 138 (0, 0))).setCells W1.heap.size 0 tblOf.toList = W2 at *
  have hsz' : Hid (W1.heap.size = w.heap.size + 1) := hid hsz
  have HT := hid hat
  have HB := hid hbl3
  clear hat hbl3 b2 hb12 hbl2 hW1 hbl b1
  generalize W1.heap.size = B at *
  have hne : ¬ B = w.heap.size := by have := hsz'.out; omega
  clear hsz
  apply wpList_nil
  refine hK0 _ _ ?_
  clear hK0 K0
  have c0 := hb13.cell 0 (v := .bool false) rfl
  have c1 := hb13.cell 1 (v := .bool false) rfl
  have c2 := hb13.cell 2 (v := .bool false) rfl
  have c3 := hb13.cell 3 (v := .bool false) rfl
  have c4 := hb13.cell 4 (v := .bool false) rfl
  have c5 := hb13.cell 5 (v := .bool false) rfl
  have f0 := hb13.free 0
  have f1 := hb13.free 1
  have f2 := hb13.free 2
  have f3 := hb13.free 3
  have f4 := hb13.free 4
  have f5 := hb13.free 5
  by_cases h9 : 9 ≤ k
  · have t1 : IntKind.i64.wrap k = k := IntWalk.i64_in _ (by omega)
    have d1 : decide (9 ≤ k) = true := by simpa using h9
    go_wp2_with fail
    clear c0 c1 c2 c3 c4 c5 f0 f1 f2 f3 f4 f5
    have hz := (((((hb13.set 0 (.bool false)).set 1 (.bool false)).set 2 (.bool false)).set 3 (.bool false)).set 4 (.bool false)).set 5 (.bool false)
    have z0 := hz.cell 0 (v := .bool false) rfl
    have z1 := hz.cell 1 (v := .bool false) rfl
    have z2 := hz.cell 2 (v := .bool false) rfl
    have z3 := hz.cell 3 (v := .bool false) rfl
    have z4 := hz.cell 4 (v := .bool false) rfl
    have z5 := hz.cell 5 (v := .bool false) rfl
    refine bodyPost_ret (v := .agg #[.bool false, .bool false, .bool false, .bool false, .bool false, .bool false]) (by simp [results, Try.results67, go_sem, z0, z1, z2, z3, z4, z5]) rfl ⟨by rw [show asksS k = ⟨false, false, false, false, false, false⟩ from by unfold asksS; rw [if_neg (by omega), if_neg (by omega), if_neg (by omega), if_neg (by omega), if_neg (by omega), if_neg (by omega), if_neg (by omega), if_neg (by omega)]]; rfl, ?_⟩
    have B1 := HB.out
    exact (((((B1.setCell (p := ⟨w.heap.size, 0, none⟩) (Nat.le_refl _) _).setCell (p := ⟨w.heap.size, 1, none⟩) (Nat.le_refl _) _).setCell (p := ⟨w.heap.size, 2, none⟩) (Nat.le_refl _) _).setCell (p := ⟨w.heap.size, 3, none⟩) (Nat.le_refl _) _).setCell (p := ⟨w.heap.size, 4, none⟩) (Nat.le_refl _) _).setCell (p := ⟨w.heap.size, 5, none⟩) (Nat.le_refl _) _
  · have hk : k = 0 ∨ k = 1 ∨ k = 2 ∨ k = 3 ∨ k = 4 ∨ k = 5 ∨ k = 6 ∨ k = 7 ∨ k = 8 := by omega
    rcases hk with rfl | rfl | rfl | rfl | rfl | rfl | rfl | rfl | rfl
    · have e0 := HT.out 0 (.bool false) rfl
      have e1 := HT.out 1 (.bool false) rfl
      have e2 := HT.out 2 (.bool false) rfl
      have e3 := HT.out 3 (.bool false) rfl
      have e4 := HT.out 4 (.bool false) rfl
      have e5 := HT.out 5 (.bool false) rfl
      go_wp2_with fail
      clear c0 c1 c2 c3 c4 c5 f0 f1 f2 f3 f4 f5 e0 e1 e2 e3 e4 e5
      have hz := (((((hb13.set 0 (.bool false)).set 1 (.bool false)).set 2 (.bool false)).set 3 (.bool false)).set 4 (.bool false)).set 5 (.bool false)
      have z0 := hz.cell 0 (v := .bool false) rfl
      have z1 := hz.cell 1 (v := .bool false) rfl
      have z2 := hz.cell 2 (v := .bool false) rfl
      have z3 := hz.cell 3 (v := .bool false) rfl
      have z4 := hz.cell 4 (v := .bool false) rfl
      have z5 := hz.cell 5 (v := .bool false) rfl
      refine bodyPost_ret (v := .agg #[.bool false, .bool false, .bool false, .bool false, .bool false, .bool false]) (by simp [results, Try.results67, go_sem, z0, z1, z2, z3, z4, z5]) rfl ⟨rfl, ?_⟩
      have B1 := HB.out
      exact (((((B1.setCell (p := ⟨w.heap.size, 0, none⟩) (Nat.le_refl _) _).setCell (p := ⟨w.heap.size, 1, none⟩) (Nat.le_refl _) _).setCell (p := ⟨w.heap.size, 2, none⟩) (Nat.le_refl _) _).setCell (p := ⟨w.heap.size, 3, none⟩) (Nat.le_refl _) _).setCell (p := ⟨w.heap.size, 4, none⟩) (Nat.le_refl _) _).setCell (p := ⟨w.heap.size, 5, none⟩) (Nat.le_refl _) _
    · have e0 := HT.out 6 (.bool true) rfl
      have e1 := HT.out 7 (.bool true) rfl
      have e2 := HT.out 8 (.bool true) rfl
      have e3 := HT.out 9 (.bool false) rfl
      have e4 := HT.out 10 (.bool false) rfl
      have e5 := HT.out 11 (.bool false) rfl
      go_wp2_with fail
      clear c0 c1 c2 c3 c4 c5 f0 f1 f2 f3 f4 f5 e0 e1 e2 e3 e4 e5
      have hz := (((((hb13.set 0 (.bool true)).set 1 (.bool true)).set 2 (.bool true)).set 3 (.bool false)).set 4 (.bool false)).set 5 (.bool false)
      have z0 := hz.cell 0 (v := .bool true) rfl
      have z1 := hz.cell 1 (v := .bool true) rfl
      have z2 := hz.cell 2 (v := .bool true) rfl
      have z3 := hz.cell 3 (v := .bool false) rfl
      have z4 := hz.cell 4 (v := .bool false) rfl
      have z5 := hz.cell 5 (v := .bool false) rfl
      refine bodyPost_ret (v := .agg #[.bool true, .bool true, .bool true, .bool false, .bool false, .bool false]) (by simp [results, Try.results67, go_sem, z0, z1, z2, z3, z4, z5]) rfl ⟨rfl, ?_⟩
      have B1 := HB.out
      exact (((((B1.setCell (p := ⟨w.heap.size, 0, none⟩) (Nat.le_refl _) _).setCell (p := ⟨w.heap.size, 1, none⟩) (Nat.le_refl _) _).setCell (p := ⟨w.heap.size, 2, none⟩) (Nat.le_refl _) _).setCell (p := ⟨w.heap.size, 3, none⟩) (Nat.le_refl _) _).setCell (p := ⟨w.heap.size, 4, none⟩) (Nat.le_refl _) _).setCell (p := ⟨w.heap.size, 5, none⟩) (Nat.le_refl _) _
    · have e0 := HT.out 12 (.bool true) rfl
      have e1 := HT.out 13 (.bool true) rfl
      have e2 := HT.out 14 (.bool true) rfl
      have e3 := HT.out 15 (.bool false) rfl
      have e4 := HT.out 16 (.bool false) rfl
      have e5 := HT.out 17 (.bool false) rfl
      go_wp2_with fail
      clear c0 c1 c2 c3 c4 c5 f0 f1 f2 f3 f4 f5 e0 e1 e2 e3 e4 e5
      have hz := (((((hb13.set 0 (.bool true)).set 1 (.bool true)).set 2 (.bool true)).set 3 (.bool false)).set 4 (.bool false)).set 5 (.bool false)
      have z0 := hz.cell 0 (v := .bool true) rfl
      have z1 := hz.cell 1 (v := .bool true) rfl
      have z2 := hz.cell 2 (v := .bool true) rfl
      have z3 := hz.cell 3 (v := .bool false) rfl
      have z4 := hz.cell 4 (v := .bool false) rfl
      have z5 := hz.cell 5 (v := .bool false) rfl
      refine bodyPost_ret (v := .agg #[.bool true, .bool true, .bool true, .bool false, .bool false, .bool false]) (by simp [results, Try.results67, go_sem, z0, z1, z2, z3, z4, z5]) rfl ⟨rfl, ?_⟩
      have B1 := HB.out
      exact (((((B1.setCell (p := ⟨w.heap.size, 0, none⟩) (Nat.le_refl _) _).setCell (p := ⟨w.heap.size, 1, none⟩) (Nat.le_refl _) _).setCell (p := ⟨w.heap.size, 2, none⟩) (Nat.le_refl _) _).setCell (p := ⟨w.heap.size, 3, none⟩) (Nat.le_refl _) _).setCell (p := ⟨w.heap.size, 4, none⟩) (Nat.le_refl _) _).setCell (p := ⟨w.heap.size, 5, none⟩) (Nat.le_refl _) _
    · have e0 := HT.out 18 (.bool true) rfl
      have e1 := HT.out 19 (.bool false) rfl
      have e2 := HT.out 20 (.bool true) rfl
      have e3 := HT.out 21 (.bool true) rfl
      have e4 := HT.out 22 (.bool false) rfl
      have e5 := HT.out 23 (.bool false) rfl
      go_wp2_with fail
      clear c0 c1 c2 c3 c4 c5 f0 f1 f2 f3 f4 f5 e0 e1 e2 e3 e4 e5
      have hz := (((((hb13.set 0 (.bool true)).set 1 (.bool false)).set 2 (.bool true)).set 3 (.bool true)).set 4 (.bool false)).set 5 (.bool false)
      have z0 := hz.cell 0 (v := .bool true) rfl
      have z1 := hz.cell 1 (v := .bool false) rfl
      have z2 := hz.cell 2 (v := .bool true) rfl
      have z3 := hz.cell 3 (v := .bool true) rfl
      have z4 := hz.cell 4 (v := .bool false) rfl
      have z5 := hz.cell 5 (v := .bool false) rfl
      refine bodyPost_ret (v := .agg #[.bool true, .bool false, .bool true, .bool true, .bool false, .bool false]) (by simp [results, Try.results67, go_sem, z0, z1, z2, z3, z4, z5]) rfl ⟨rfl, ?_⟩
      have B1 := HB.out
      exact (((((B1.setCell (p := ⟨w.heap.size, 0, none⟩) (Nat.le_refl _) _).setCell (p := ⟨w.heap.size, 1, none⟩) (Nat.le_refl _) _).setCell (p := ⟨w.heap.size, 2, none⟩) (Nat.le_refl _) _).setCell (p := ⟨w.heap.size, 3, none⟩) (Nat.le_refl _) _).setCell (p := ⟨w.heap.size, 4, none⟩) (Nat.le_refl _) _).setCell (p := ⟨w.heap.size, 5, none⟩) (Nat.le_refl _) _
    · have e0 := HT.out 24 (.bool true) rfl
      have e1 := HT.out 25 (.bool false) rfl
      have e2 := HT.out 26 (.bool true) rfl
      have e3 := HT.out 27 (.bool false) rfl
      have e4 := HT.out 28 (.bool true) rfl
      have e5 := HT.out 29 (.bool true) rfl
      go_wp2_with fail
      clear c0 c1 c2 c3 c4 c5 f0 f1 f2 f3 f4 f5 e0 e1 e2 e3 e4 e5
      have hz := (((((hb13.set 0 (.bool true)).set 1 (.bool false)).set 2 (.bool true)).set 3 (.bool false)).set 4 (.bool true)).set 5 (.bool true)
      have z0 := hz.cell 0 (v := .bool true) rfl
      have z1 := hz.cell 1 (v := .bool false) rfl
      have z2 := hz.cell 2 (v := .bool true) rfl
      have z3 := hz.cell 3 (v := .bool false) rfl
      have z4 := hz.cell 4 (v := .bool true) rfl
      have z5 := hz.cell 5 (v := .bool true) rfl
      refine bodyPost_ret (v := .agg #[.bool true, .bool false, .bool true, .bool false, .bool true, .bool true]) (by simp [results, Try.results67, go_sem, z0, z1, z2, z3, z4, z5]) rfl ⟨rfl, ?_⟩
      have B1 := HB.out
      exact (((((B1.setCell (p := ⟨w.heap.size, 0, none⟩) (Nat.le_refl _) _).setCell (p := ⟨w.heap.size, 1, none⟩) (Nat.le_refl _) _).setCell (p := ⟨w.heap.size, 2, none⟩) (Nat.le_refl _) _).setCell (p := ⟨w.heap.size, 3, none⟩) (Nat.le_refl _) _).setCell (p := ⟨w.heap.size, 4, none⟩) (Nat.le_refl _) _).setCell (p := ⟨w.heap.size, 5, none⟩) (Nat.le_refl _) _
    · have e0 := HT.out 30 (.bool true) rfl
      have e1 := HT.out 31 (.bool false) rfl
      have e2 := HT.out 32 (.bool true) rfl
      have e3 := HT.out 33 (.bool false) rfl
      have e4 := HT.out 34 (.bool true) rfl
      have e5 := HT.out 35 (.bool false) rfl
      go_wp2_with fail
      clear c0 c1 c2 c3 c4 c5 f0 f1 f2 f3 f4 f5 e0 e1 e2 e3 e4 e5
      have hz := (((((hb13.set 0 (.bool true)).set 1 (.bool false)).set 2 (.bool true)).set 3 (.bool false)).set 4 (.bool true)).set 5 (.bool false)
      have z0 := hz.cell 0 (v := .bool true) rfl
      have z1 := hz.cell 1 (v := .bool false) rfl
      have z2 := hz.cell 2 (v := .bool true) rfl
      have z3 := hz.cell 3 (v := .bool false) rfl
      have z4 := hz.cell 4 (v := .bool true) rfl
      have z5 := hz.cell 5 (v := .bool false) rfl
      refine bodyPost_ret (v := .agg #[.bool true, .bool false, .bool true, .bool false, .bool true, .bool false]) (by simp [results, Try.results67, go_sem, z0, z1, z2, z3, z4, z5]) rfl ⟨rfl, ?_⟩
      have B1 := HB.out
      exact (((((B1.setCell (p := ⟨w.heap.size, 0, none⟩) (Nat.le_refl _) _).setCell (p := ⟨w.heap.size, 1, none⟩) (Nat.le_refl _) _).setCell (p := ⟨w.heap.size, 2, none⟩) (Nat.le_refl _) _).setCell (p := ⟨w.heap.size, 3, none⟩) (Nat.le_refl _) _).setCell (p := ⟨w.heap.size, 4, none⟩) (Nat.le_refl _) _).setCell (p := ⟨w.heap.size, 5, none⟩) (Nat.le_refl _) _
    · have e0 := HT.out 36 (.bool true) rfl
      have e1 := HT.out 37 (.bool false) rfl
      have e2 := HT.out 38 (.bool false) rfl
      have e3 := HT.out 39 (.bool false) rfl
      have e4 := HT.out 40 (.bool false) rfl
      have e5 := HT.out 41 (.bool false) rfl
      go_wp2_with fail
      clear c0 c1 c2 c3 c4 c5 f0 f1 f2 f3 f4 f5 e0 e1 e2 e3 e4 e5
      have hz := (((((hb13.set 0 (.bool true)).set 1 (.bool false)).set 2 (.bool false)).set 3 (.bool false)).set 4 (.bool false)).set 5 (.bool false)
      have z0 := hz.cell 0 (v := .bool true) rfl
      have z1 := hz.cell 1 (v := .bool false) rfl
      have z2 := hz.cell 2 (v := .bool false) rfl
      have z3 := hz.cell 3 (v := .bool false) rfl
      have z4 := hz.cell 4 (v := .bool false) rfl
      have z5 := hz.cell 5 (v := .bool false) rfl
      refine bodyPost_ret (v := .agg #[.bool true, .bool false, .bool false, .bool false, .bool false, .bool false]) (by simp [results, Try.results67, go_sem, z0, z1, z2, z3, z4, z5]) rfl ⟨rfl, ?_⟩
      have B1 := HB.out
      exact (((((B1.setCell (p := ⟨w.heap.size, 0, none⟩) (Nat.le_refl _) _).setCell (p := ⟨w.heap.size, 1, none⟩) (Nat.le_refl _) _).setCell (p := ⟨w.heap.size, 2, none⟩) (Nat.le_refl _) _).setCell (p := ⟨w.heap.size, 3, none⟩) (Nat.le_refl _) _).setCell (p := ⟨w.heap.size, 4, none⟩) (Nat.le_refl _) _).setCell (p := ⟨w.heap.size, 5, none⟩) (Nat.le_refl _) _
    · have e0 := HT.out 42 (.bool true) rfl
      have e1 := HT.out 43 (.bool false) rfl
      have e2 := HT.out 44 (.bool false) rfl
      have e3 := HT.out 45 (.bool false) rfl
      have e4 := HT.out 46 (.bool true) rfl
      have e5 := HT.out 47 (.bool true) rfl
      go_wp2_with fail
      clear c0 c1 c2 c3 c4 c5 f0 f1 f2 f3 f4 f5 e0 e1 e2 e3 e4 e5
      have hz := (((((hb13.set 0 (.bool true)).set 1 (.bool false)).set 2 (.bool false)).set 3 (.bool false)).set 4 (.bool true)).set 5 (.bool true)
      have z0 := hz.cell 0 (v := .bool true) rfl
      have z1 := hz.cell 1 (v := .bool false) rfl
      have z2 := hz.cell 2 (v := .bool false) rfl
      have z3 := hz.cell 3 (v := .bool false) rfl
      have z4 := hz.cell 4 (v := .bool true) rfl
      have z5 := hz.cell 5 (v := .bool true) rfl
      refine bodyPost_ret (v := .agg #[.bool true, .bool false, .bool false, .bool false, .bool true, .bool true]) (by simp [results, Try.results67, go_sem, z0, z1, z2, z3, z4, z5]) rfl ⟨rfl, ?_⟩
      have B1 := HB.out
      exact (((((B1.setCell (p := ⟨w.heap.size, 0, none⟩) (Nat.le_refl _) _).setCell (p := ⟨w.heap.size, 1, none⟩) (Nat.le_refl _) _).setCell (p := ⟨w.heap.size, 2, none⟩) (Nat.le_refl _) _).setCell (p := ⟨w.heap.size, 3, none⟩) (Nat.le_refl _) _).setCell (p := ⟨w.heap.size, 4, none⟩) (Nat.le_refl _) _).setCell (p := ⟨w.heap.size, 5, none⟩) (Nat.le_refl _) _
    · have e0 := HT.out 48 (.bool true) rfl
      have e1 := HT.out 49 (.bool false) rfl
      have e2 := HT.out 50 (.bool true) rfl
      have e3 := HT.out 51 (.bool false) rfl
      have e4 := HT.out 52 (.bool false) rfl
      have e5 := HT.out 53 (.bool false) rfl
      go_wp2_with fail
      clear c0 c1 c2 c3 c4 c5 f0 f1 f2 f3 f4 f5 e0 e1 e2 e3 e4 e5
      have hz := (((((hb13.set 0 (.bool true)).set 1 (.bool false)).set 2 (.bool true)).set 3 (.bool false)).set 4 (.bool false)).set 5 (.bool false)
      have z0 := hz.cell 0 (v := .bool true) rfl
      have z1 := hz.cell 1 (v := .bool false) rfl
      have z2 := hz.cell 2 (v := .bool true) rfl
      have z3 := hz.cell 3 (v := .bool false) rfl
      have z4 := hz.cell 4 (v := .bool false) rfl
      have z5 := hz.cell 5 (v := .bool false) rfl
      refine bodyPost_ret (v := .agg #[.bool true, .bool false, .bool true, .bool false, .bool false, .bool false]) (by simp [results, Try.results67, go_sem, z0, z1, z2, z3, z4, z5]) rfl ⟨rfl, ?_⟩
      have B1 := HB.out
      exact (((((B1.setCell (p := ⟨w.heap.size, 0, none⟩) (Nat.le_refl _) _).setCell (p := ⟨w.heap.size, 1, none⟩) (Nat.le_refl _) _).setCell (p := ⟨w.heap.size, 2, none⟩) (Nat.le_refl _) _).setCell (p := ⟨w.heap.size, 3, none⟩) (Nat.le_refl _) _).setCell (p := ⟨w.heap.size, 4, none⟩) (Nat.le_refl _) _).setCell (p := ⟨w.heap.size, 5, none⟩) (Nat.le_refl _) _
end Go.Proofs.Ytaklfjjkeebheaa
