/-
  The line of numbers in memory; regions that hand one number to a closure and store what it tells. Closures are abstract.
-/
import Derived.Test.YtokkafiphchejaaDoorReg8
import Derived.Test.YtokkafiphchejaaDoorTurn
import Derived.Test.YtokkafiphchejaaDoorDeG0
import Derived.Test.YtokkafiphchejaaDoorProg
import Derived.Deep.QuietTactic
namespace Go.Proofs.YtokkafiphchejaaDoor
set_option linter.unusedVariables false
set_option linter.unusedSimpArgs false
open Go Go.RowKit
def cdrA (T V S : Int) (c : Cdr) : Array Value := #[.int .i64 T, .int .i64 V, .int .i64 S, .int .i64 c.last, .int .i64 c.clock, .int .i64 (c.begun 0), .int .i64 (c.begun 1), .int .i64 (c.begun 2), .int .i64 (c.begun 3), .int .i64 (c.begun 4), .int .i64 (c.begun 5), .int .i64 (c.bumped 0), .int .i64 (c.bumped 1), .int .i64 (c.bumped 2), .int .i64 (c.bumped 3), .int .i64 (c.bumped 4), .int .i64 (c.bumped 5), .int .i64 (c.x 0), .int .i64 (c.x 1), .int .i64 (c.x 2), .int .i64 (c.x 3), .int .i64 (c.x 4), .int .i64 (c.x 5), .int .i64 (c.x 6), .int .i64 (c.x 7), .int .i64 (c.x 8), .int .i64 (c.x 9), .int .i64 (c.x 10), .int .i64 (c.x 11), .int .i64 (c.x 12), .int .i64 (c.x 13), .int .i64 (c.x 14), .int .i64 (c.x 15), .int .i64 (c.x 16), .int .i64 (c.x 17), .int .i64 (c.x 18), .int .i64 (c.x 19), .int .i64 (c.x 20), .int .i64 (c.x 21), .int .i64 (c.x 22), .int .i64 (c.x 23), .int .i64 (c.x 24), .int .i64 (c.x 25), .int .i64 (c.x 26), .int .i64 (c.x 27), .int .i64 (c.x 28), .int .i64 (c.x 29), .int .i64 (c.x 30), .int .i64 (c.x 31)]
/-- A closure: its function, what it holds. -/
def clo (f : FuncId) (bs : Array Value) : Value := .func (.func f) #[] bs
def lineA (C : Nat) (e : Ev) (fn fi fb : Value) : Array Value := #[.pointer (some ⟨C, 0, none⟩), .int .u8 e.kind, .int .i64 e.th, .int .i64 e.tx, .int .i64 e.at_, .int .i64 e.v, .int .i64 e.x, .int .u8 e.why, fn, fi, fb]
/-- What is asked of the three closures: At: where their state stands, which hangs on the blocks ks alone. -/
structure ClOk {σ : Type} (K : Cl σ) (ks : List Nat) (At : σ → World → Prop) (Px : Int → Prop) (Ok : Nat → σ → Prop) (n i b : FuncId) (vn vi vb : Array Value) : Prop where
  okm : ∀ j s, Ok (j + 1) s → Ok 1 s
  okn : ∀ j s x m, Ok (j + 1) s → Ok j (K.num s x m).2
  en : ∀ args W, (callFunc n args).run Tryd.prog W = .ok (.enter n args) W
  ei : ∀ args W, (callFunc i args).run Tryd.prog W = .ok (.enter i args) W
  eb : ∀ args W, (callFunc b args).run Tryd.prog W = .ok (.enter b args) W
  keep : ∀ s W W', At s W → (∀ k ∈ ks, W'.heap[k]? = W.heap[k]?) → At s W'
  num : ∀ s (x most : Int) W, At s W → Ok 1 s → Px x → (0 ≤ most ∧ most ≤ 4398046511104) → Calls Tryd.prog n (#[.int .i64 x, .int .i64 most] ++ vn) W fun e W' => e = .returned (.int .i64 (K.num s x most).1) ∧ At (K.num s x most).2 W' ∧ Turn ks W W'
  nb : ∀ s (x most : Int), Px x → (0 ≤ most ∧ most ≤ 4398046511104) → 0 ≤ (K.num s x most).1 ∧ (K.num s x most).1 ≤ 4398046511104
  int : ∀ s (x : Int) W, At s W → Ok 1 s → (-9223372036854775808 ≤ x ∧ x ≤ 9223372036854775807) → Calls Tryd.prog i (#[.int .i64 x] ++ vi) W fun e W' => e = .returned (.int .i64 (K.int s x).1) ∧ At (K.int s x).2 W' ∧ Turn ks W W'
  bad : ∀ s W, At s W → Calls Tryd.prog b vb W fun e W' => (∃ v, e = .returned v) ∧ At (K.bad s) W' ∧ Turn ks W W'
/-- What holds in a region of so many operations, with one call and one store, the last. -/
structure LJ {σ : Type} (W : World) (ks : List Nat) (At : σ → World → Prop) (s' : σ) (L : Nat) (cs' : Array Value) (t : TypeId) (n ci si : Nat) (l : Nat → Bool) (w' : World) : Prop where
  ord : l si = true → ∀ i, i < n → i ≠ si → l i = true
  pre : l ci = false → w' = W.drew
  mid : l ci = true → l si = false → At s' w' ∧ Turn ks W w'
  fin : l si = true → At s' w' ∧ Turn (L :: ks) W w' ∧ Blk w' L cs' t
  d1 : l (si - 1) = true → l (si - 2) = true
  d2 : l (si - 2) = true → l (si - 3) = true
section
variable {σ : Type} {W : World} {ks : List Nat} {At : σ → World → Prop} {s' : σ} {L : Nat} {cs cs' : Array Value} {t : TypeId} {n ci si : Nat} {l l' : Nat → Bool} {w' w'' : World}
theorem LJ.ext (hci : ci < n) (hsi : si < n) (h : ∀ i, i < n → l i = l' i) (H : LJ W ks At s' L cs' t n ci si l w') : LJ W ks At s' L cs' t n ci si l' w' where
  ord g i hi hne := by rw [← h i hi]; exact H.ord (by rw [h si hsi]; exact g) i hi hne
  pre g := H.pre (by rw [h ci hci]; exact g)
  mid g g' := H.mid (by rw [h ci hci]; exact g) (by rw [h si hsi]; exact g')
  fin g := H.fin (by rw [h si hsi]; exact g)
  d1 g := by rw [← h _ (by omega)]; exact H.d1 (by rw [h _ (by omega)]; exact g)
  d2 g := by rw [← h _ (by omega)]; exact H.d2 (by rw [h _ (by omega)]; exact g)
theorem LJ.start : LJ W ks At s' L cs' t n ci si (fun _ => false) W.drew := ⟨fun h => by (cases h), fun _ => rfl, fun h => by (cases h), fun h => by (cases h), fun h => by (cases h), fun h => by (cases h)⟩
theorem doneL_mono {l : Nat → Bool} {i j k : Nat} (h : l j = true → l k = true) (hi : j = i → l k = true) (g : doneL l i j = true) : doneL l i k = true := by
  unfold doneL at g ⊢
  by_cases hk : k = i
  · rw [if_pos hk]
  · rw [if_neg hk]
    by_cases hj : j = i
    · exact hi hj
    · rw [if_neg hj] at g; exact h g
theorem LJ.not (H : LJ W ks At s' L cs' t n ci si l w') {i : Nat} (hi : i < n) (hne : i ≠ si) (hl : l i = false) : l si = false := by
  cases h : l si with
  | false => rfl
  | true => rw [H.ord h i hi hne] at hl; cases hl
/-- Before the store nothing has turned but the closures' own. -/
theorem LJ.turn (H : LJ W ks At s' L cs' t n ci si l w') (h : l si = false) : Turn ks W w' := by
  cases hc : l ci with
  | false => rw [H.pre hc]; exact (Turn.refl _ _).drew
  | true => exact (H.mid hc h).2
theorem LJ.put (H : LJ W ks At s' L cs' t n ci si l w') {i : Nat} (hi : i < n) (hne : i ≠ si) (hnc : i ≠ ci) (hl : l i = false) (hd1 : si - 1 = i → l (si - 2) = true) (hd2 : si - 2 = i → l (si - 3) = true) : LJ W ks At s' L cs' t n ci si (doneL l i) w' := by
  have h0 := H.not hi hne hl
  have e1 : doneL l i si = false := by unfold doneL; rw [if_neg (Ne.symm hne)]; exact h0
  have e2 : doneL l i ci = l ci := by unfold doneL; rw [if_neg (Ne.symm hnc)]
  exact ⟨fun g => by (rw [e1] at g; cases g), fun g => H.pre (by rw [← e2]; exact g), fun g _ => H.mid (by rw [← e2]; exact g) h0, fun g => by (rw [e1] at g; cases g), doneL_mono H.d1 hd1, doneL_mono H.d2 hd2⟩
theorem LJ.call (H : LJ W ks At s' L cs' t n ci si l w') (hci : ci < n) (hne : ci ≠ si) (hl : l ci = false) (h3 : ci < si - 2) (ha : At s' w'') (ht : Turn ks W.drew w'') : LJ W ks At s' L cs' t n ci si (doneL l ci) w'' := by
  have h0 := H.not hci hne hl
  have e1 : doneL l ci si = false := by unfold doneL; rw [if_neg (Ne.symm hne)]; exact h0
  have e2 : doneL l ci ci = true := by unfold doneL; rw [if_pos rfl]
  exact ⟨fun g => by (rw [e1] at g; cases g), fun g => by (rw [e2] at g; cases g), fun _ _ => ⟨ha, ((Turn.refl ks W).drew).trans ht⟩, fun g => by (rw [e1] at g; cases g), doneL_mono H.d1 (fun e => by omega), doneL_mono H.d2 (fun e => by omega)⟩
theorem LJ.store (H : LJ W ks At s' L cs' t n ci si l w') (hk : ∀ s W W', At s W → (∀ k ∈ ks, W'.heap[k]? = W.heap[k]?) → At s W') (hL : L ∉ ks) (hB : Blk W L cs t) (hs : 3 ≤ si) (hci : ci < n) (hne : ci ≠ si) (hl : l si = false) (hall : ∀ i, i < n → i ≠ si → l i = true) {o : Nat} {v : Value} (hcs : cs.setIfInBounds o v = cs') :
    LJ W ks At s' L cs' t n ci si (doneL l si) (w'.setCell ⟨L, o, none⟩ v) := by
  obtain ⟨h1, h2⟩ := H.mid (hall ci hci hne) hl
  have e1 : doneL l si si = true := by unfold doneL; rw [if_pos rfl]
  have e2 : doneL l si ci = true := by unfold doneL; rw [if_neg hne]; exact hall ci hci hne
  refine ⟨fun _ i hi hn => by (unfold doneL; rw [if_neg hn]; exact hall i hi hn), fun g => by (rw [e2] at g; cases g), fun _ g => by (rw [e1] at g; cases g), fun _ => ⟨hk _ _ _ h1 fun k hm => Below.heap_setCell _ _ _ _ (fun e => hL (by have e' : k = L := e; rw [← e']; exact hm)), ?_, ?_⟩, doneL_mono H.d1 (fun e => by omega), doneL_mono H.d2 (fun e => by omega)⟩
  · exact (h2.mono (fun x hx => List.mem_cons_of_mem _ hx)).setCell (Or.inl (by simp)) _
  · have := (h2.blk hL hB).set o v
    rw [hcs] at this; exact this
end
theorem wrap_w64 (x : Int) : IntKind.i64.wrap x = w64 x := by
  simp only [IntKind.wrap, IntKind.bits, IntKind.signed, w64]
  simp
  split <;> omega
theorem cdr_begun (T V S : Int) (c : Cdr) {j : Nat} (h : j < 6) : (cdrA T V S c)[5 + j]? = some (.int .i64 (c.begun j)) := by
  have : j = 0 ∨ j = 1 ∨ j = 2 ∨ j = 3 ∨ j = 4 ∨ j = 5 := by omega
  rcases this with rfl | rfl | rfl | rfl | rfl | rfl <;> rfl
theorem cdr_bumped (T V S : Int) (c : Cdr) {j : Nat} (h : j < 6) : (cdrA T V S c)[11 + j]? = some (.int .i64 (c.bumped j)) := by
  have : j = 0 ∨ j = 1 ∨ j = 2 ∨ j = 3 ∨ j = 4 ∨ j = 5 := by omega
  rcases this with rfl | rfl | rfl | rfl | rfl | rfl <;> rfl
theorem cdr_x (T V S : Int) (c : Cdr) {j : Nat} (h : j < 32) : (cdrA T V S c)[17 + j]? = some (.int .i64 (c.x j)) := by
  have : j = 0 ∨ j = 1 ∨ j = 2 ∨ j = 3 ∨ j = 4 ∨ j = 5 ∨ j = 6 ∨ j = 7 ∨ j = 8 ∨ j = 9 ∨ j = 10 ∨ j = 11 ∨ j = 12 ∨ j = 13 ∨ j = 14 ∨ j = 15 ∨ j = 16 ∨ j = 17 ∨ j = 18 ∨ j = 19 ∨ j = 20 ∨ j = 21 ∨ j = 22 ∨ j = 23 ∨ j = 24 ∨ j = 25 ∨ j = 26 ∨ j = 27 ∨ j = 28 ∨ j = 29 ∨ j = 30 ∨ j = 31 := by omega
  rcases this with rfl | rfl | rfl | rfl | rfl | rfl | rfl | rfl | rfl | rfl | rfl | rfl | rfl | rfl | rfl | rfl | rfl | rfl | rfl | rfl | rfl | rfl | rfl | rfl | rfl | rfl | rfl | rfl | rfl | rfl | rfl | rfl <;> rfl
end Go.Proofs.YtokkafiphchejaaDoor
