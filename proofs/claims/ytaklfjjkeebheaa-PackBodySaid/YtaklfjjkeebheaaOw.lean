/-
  A region 'x[i] = append(append([]T{}, x[i]...), y)' that draws its order: what holds while it runs. Of any program.
-/
import Derived.Test.YtaklfjjkeebheaaBase
import Derived.Maps.AppendAt
import Derived.OwnWalk
import Derived.Test.YtaklfjjkeebheaaTurn
import Derived.Test.YtaklfjjkeebheaaPbR
namespace Go.Proofs.Ytaklfjjkeebheaa
set_option linter.unusedVariables false
open Go Go.RowKit
section
variable {P : Program}
theorem run_app_cap0 (w : World) (t ty e : TypeId) (i : TypeInfo) (size bytes : Nat) (ht : P.underlying t = some (.slice e)) (hi : P.info? e = some i) (hsize : i.size = size) (hby : i.bytes = bytes)
    (ad : Addr) (A : Option Addr) (m c : Nat) (hm : 0 < m) (hbytes : m * bytes ≤ 140737488355328) :
    (Builtin.append_ #[t, t] ty #[.slice (some ad) 0 0, .slice A m c]).run P w = (Builtin.append_ #[t, t] ty #[.slice none 0 0, .slice A m c]).run P w := by
  subst hsize; subst hby
  have h1 : ¬ m = 0 := by omega
  have h2 : ¬ (Builtin.nextslicecap m 0 * i.bytes > 281474976710656) := by
    have : Builtin.nextslicecap m 0 = m := by simp [Builtin.nextslicecap, hm]
    rw [this]; omega
  simp [Builtin.append_, run_underlying ht, sizeOf, typeInfo, hi, Builtin.lenOf, Builtin.firstCells, h1, h2, loadCells, loadCellsFrom]

theorem own_old {w : World} {base : Nat} {e : TypeId} {size : Nat} {v : Value} {n : Nat} {xs : List Value} (h : w.ownsRow base e size v n xs) {w' : World} (hb : Below w.heap.size w w') : w'.ownsRow base e size v n xs :=
  h.kept (row := none) ⟨hb.os, hb.tape, hb.output, hb.size, fun k hk _ => hb.block k hk⟩ (by cases v.ownBlock <;> simp)
theorem own_form {w : World} {base : Nat} {e : TypeId} {size : Nat} {v : Value} {n : Nat} {xs : List Value} (h : w.ownsRow base e size v (n + 1) xs) : ∃ g cap, v = .slice (some ⟨g, 0, none⟩) (n + 1) cap := by
  rcases h.2 with ⟨_, h0⟩ | ⟨g, cap, cur, hv, -⟩
  · omega
  · exact ⟨g, cap, hv⟩
/-- A slice that stands in a slot: nil, or its own. -/
def RowV (w : World) (base : Nat) (e : TypeId) (v : Value) (xs : List Value) : Prop := w.ownsRow base e 1 v xs.length xs ∧ (xs = [] → v = .slice none 0 0)
theorem RowV.nil (w : World) (base : Nat) (e : TypeId) : RowV w base e (.slice none 0 0) [] := ⟨World.ownsRow_nil w _ _ _, fun _ => rfl⟩
theorem RowV.old {w w' : World} {base : Nat} {e : TypeId} {v : Value} {xs : List Value} (h : RowV w base e v xs) (hb : Below w.heap.size w w') : RowV w' base e v xs := ⟨own_old h.1 hb, h.2⟩
/-- Slots whose blocks stand. -/
theorem RowV.turn {w w' : World} {base : Nat} {e : TypeId} {v : Value} {xs : List Value} {l : List Nat} (h : RowV w base e v xs) (hb : Turn l w w') (hl : ∀ k ∈ l, k < base) : RowV w' base e v xs := by
  refine ⟨?_, h.2⟩
  obtain ⟨h1, h2⟩ := h.1
  refine ⟨h1, ?_⟩
  rcases h2 with h2 | ⟨g, cap, cur, rfl, hbg, hg, rest⟩
  · exact Or.inl h2
  · refine Or.inr ⟨g, cap, cur, rfl, hbg, ?_, rest⟩
    rw [hb.block g (Array.getElem?_eq_some_iff.1 hg).1 (fun hm => by have := hl g hm; omega)]; exact hg
theorem RowV.cases {w : World} {base : Nat} {e : TypeId} {v : Value} {xs : List Value} (h : RowV w base e v xs) : (xs = [] ∧ v = .slice none 0 0) ∨ ∃ g cap, v = .slice (some ⟨g, 0, none⟩) xs.length cap ∧ 0 < xs.length ∧ base ≤ g ∧ ∀ (j : Nat) (u : Value), xs[j]? = some u → w.cell? ⟨g, j, none⟩ = some u := by
  by_cases hx : xs = []
  · exact Or.inl ⟨hx, h.2 hx⟩
  · have hp : 0 < xs.length := List.length_pos_iff.2 hx
    right
    rcases h.1.2 with ⟨-, h0⟩ | ⟨g, cap, cur, rfl, hbg, hg, -, -, -, ht⟩
    · omega
    · refine ⟨g, cap, rfl, hp, hbg, fun j u hu => ?_⟩
      have hc := h.1.cells (g := g) rfl j u hu
      have : (⟨g, 0, none⟩ : Addr).add j = ⟨g, j, none⟩ := by unfold Addr.add; split <;> simp_all
      rwa [this] at hc
theorem run_app0 (w : World) (base : Nat) (t ty e : TypeId) (i : TypeInfo) (z : Value) (bytes : Nat) (ht : P.underlying t = some (.slice e)) (hi : P.info? e = some i) (hz : i.zero = some z) (hsize : i.size = 1) (hby : i.bytes = bytes) (hzs : z.cells.size = 1)
    (ad : Addr) (hown : w.ownsRow base e 1 (.slice (some ad) 0 0) 0 []) (v : Value) (xs : List Value) {base' : Nat} (hv : RowV w base' e v xs) (h1 : ∀ u ∈ xs, u.oneCell' = true) (h63 : xs.length ≤ maxLen) (hbytes : xs.length * bytes ≤ 140737488355328) (hbase : base ≤ w.heap.size) :
    ∃ v' w', (Builtin.append_ #[t, t] ty #[.slice (some ad) 0 0, v]).run P w = .ok v' w' ∧ Below w.heap.size w w' ∧ w'.ownsRow base e 1 v' xs.length xs := by
  rcases hv.cases with ⟨rfl, rfl⟩ | ⟨g, cap, rfl, hp, hbg, hc⟩
  · exact ⟨_, w, run_append_owned_none w base t ty e i 1 ht hi _ 0 [] hown, ext_refl _, hown⟩
  · obtain ⟨v', w', hrun, hown', hg, -, -⟩ := run_append_own_at (P := P) w base t ty e i z 1 bytes ht hi hz hsize hby hzs (by omega) (.slice none 0 0) 0 [] (World.ownsRow_nil w _ _ _) ⟨g, 0, none⟩ xs.length cap xs (by omega)
      (fun j u hu => by
        have : (⟨g, 0, none⟩ : Addr).add j = ⟨g, j, none⟩ := by unfold Addr.add; split <;> simp_all
        rw [this]; exact hc j u hu) h1 (by rw [Nat.zero_add]; exact h63) (by rw [Nat.zero_add]; exact hbytes) hbase
    rw [run_app_cap0 w t ty e i 1 bytes ht hi hsize hby ad (some ⟨g, 0, none⟩) xs.length cap hp hbytes, hrun]
    rw [Nat.zero_add, List.nil_append] at hown'
    exact ⟨v', w', rfl, ⟨hg.os, hg.tape, hg.output, hg.size, fun k hk => hg.block k hk (by simp [Value.ownBlock])⟩, hown'⟩

/-- What holds while the region runs: B, o: the slot; kn: what is known ahead. -/
structure AJ (w : World) (B o : Nat) (e : TypeId) (cs : Array Value) (tb : TypeId) (xs : List Value) (x : Value) (kn : Nat → Value) (l : Nat → Bool) (v : Nat → Value) (w' : World) : Prop where
  ord : l 11 = true → ∀ i, i < 11 → l i = true
  low : l 11 = false → Below w.heap.size w w'
  kn : ∀ i, i = 0 ∨ i = 2 ∨ i = 3 ∨ i = 4 ∨ i = 6 ∨ i = 7 ∨ i = 10 → l i = true → v i = kn i
  e1 : l 1 = true → l 5 = false → ∃ g, v 1 = .slice (some ⟨g, 0, none⟩) 0 0 ∧ w'.ownsRow w.heap.size e 1 (v 1) 0 []
  e5 : l 5 = true → l 9 = false → w'.ownsRow w.heap.size e 1 (v 5) xs.length xs
  e8 : l 8 = true → l 9 = false → ∃ g, v 8 = .slice (some ⟨g, 0, none⟩) 1 1 ∧ w'.cell? ⟨g, 0, none⟩ = some x
  e9 : l 9 = true → l 11 = false → w'.ownsRow w.heap.size e 1 (v 9) (xs.length + 1) (xs ++ [x])
  fin : l 11 = true → ∃ v9, Turn [B] w w' ∧ Blk w' B (cs.setIfInBounds o v9) tb ∧ RowV w' w.heap.size e v9 (xs ++ [x])
variable {w : World} {B o : Nat} {e : TypeId} {cs : Array Value} {tb : TypeId} {xs : List Value} {x : Value} {kn : Nat → Value} {l l' : Nat → Bool} {v : Nat → Value} {w' w'' : World}
theorem AJ.ext (h : ∀ i, i < 12 → l i = l' i) (H : AJ w B o e cs tb xs x kn l v w') : AJ w B o e cs tb xs x kn l' v w' where
  ord g i hi := by rw [← h i (by omega)]; exact H.ord (by rw [h 11 (by omega)]; exact g) i hi
  low g := H.low (by rw [h 11 (by omega)]; exact g)
  kn i hi g := H.kn i hi (by rw [h i (by omega)]; exact g)
  e1 g g' := H.e1 (by rw [h 1 (by omega)]; exact g) (by rw [h 5 (by omega)]; exact g')
  e5 g g' := H.e5 (by rw [h 5 (by omega)]; exact g) (by rw [h 9 (by omega)]; exact g')
  e8 g g' := H.e8 (by rw [h 8 (by omega)]; exact g) (by rw [h 9 (by omega)]; exact g')
  e9 g g' := H.e9 (by rw [h 9 (by omega)]; exact g) (by rw [h 11 (by omega)]; exact g')
  fin g := H.fin (by rw [h 11 (by omega)]; exact g)
theorem AJ.start (w : World) (B o : Nat) (e : TypeId) (cs : Array Value) (tb : TypeId) (xs : List Value) (x : Value) (kn : Nat → Value) : AJ w B o e cs tb xs x kn (fun _ => false) (fun _ => undef) w.drew :=
  ⟨fun h => by (cases h), fun _ => ext_drew (ext_refl _), fun _ _ h => by (cases h), fun h => by (cases h), fun h => by (cases h), fun h => by (cases h), fun h => by (cases h), fun h => by (cases h)⟩
theorem AJ.not (H : AJ w B o e cs tb xs x kn l v w') {i : Nat} (hi : i < 11) (hl : l i = false) : l 11 = false := by
  cases h : l 11 with
  | false => rfl
  | true => rw [H.ord h i hi] at hl; cases hl
/-- A step that leaves old blocks as they are, but for the second append and the store. -/
theorem AJ.put {y : Value} (i : Nat) (hi : i < 9 ∨ i = 10) (hl : l i = false) (H : AJ w B o e cs tb xs x kn l v w') (hb : Below w'.heap.size w' w'')
    (h0 : i = 0 ∨ i = 2 ∨ i = 3 ∨ i = 4 ∨ i = 6 ∨ i = 7 ∨ i = 10 → y = kn i) (h1 : i = 1 → ∃ g, y = .slice (some ⟨g, 0, none⟩) 0 0 ∧ w''.ownsRow w.heap.size e 1 y 0 [])
    (h5 : i = 5 → w''.ownsRow w.heap.size e 1 y xs.length xs) (h8 : i = 8 → ∃ g, y = .slice (some ⟨g, 0, none⟩) 1 1 ∧ w''.cell? ⟨g, 0, none⟩ = some x) : AJ w B o e cs tb xs x kn (doneL l i) (doneV v i y) w'' := by
  have h11 : l 11 = false := H.not (by omega) hl
  have n11 : doneL l i 11 = false := by unfold doneL; rw [if_neg (by omega)]; exact h11
  have eL : ∀ j, j ≠ i → doneL l i j = l j := fun j h => by unfold doneL; rw [if_neg h]
  have eV : ∀ j, j ≠ i → doneV v i y j = v j := fun j h => by unfold doneV; rw [if_neg h]
  have iV : doneV v i y i = y := by unfold doneV; rw [if_pos rfl]
  have tL : ∀ {j}, doneL l i j = false → l j = false := by intro j h; unfold doneL at h; split at h; cases h; exact h
  refine ⟨fun g => by (rw [n11] at g; cases g), fun _ => ext_trans (H.low h11) hb, fun j hj g => ?_, fun g g' => ?_, fun g g' => ?_, fun g g' => ?_, fun g g' => ?_, fun g => by (rw [n11] at g; cases g)⟩
  · by_cases hh : j = i
    · subst hh; rw [iV]; exact h0 hj
    · rw [eL j hh] at g; rw [eV j hh]; exact H.kn j hj g
  · by_cases hh : 1 = i
    · subst hh; rw [iV]; exact h1 rfl
    · rw [eL 1 hh] at g; rw [eV 1 hh]
      obtain ⟨a, a1, a2⟩ := H.e1 g (tL g')
      exact ⟨a, a1, own_old a2 hb⟩
  · by_cases hh : 5 = i
    · subst hh; rw [iV]; exact h5 rfl
    · rw [eL 5 hh] at g; rw [eV 5 hh]; exact own_old (H.e5 g (tL g')) hb
  · by_cases hh : 8 = i
    · subst hh; rw [iV]; exact h8 rfl
    · rw [eL 8 hh] at g; rw [eV 8 hh]
      obtain ⟨a, a1, a2⟩ := H.e8 g (tL g')
      exact ⟨a, a1, later hb a2⟩
  · rw [eL 9 (by omega)] at g; rw [eV 9 (by omega)]; exact own_old (H.e9 g h11) hb
/-- The second append. -/
theorem AJ.put9 {y : Value} (hl : l 9 = false) (h5 : l 5 = true) (h8 : l 8 = true) (H : AJ w B o e cs tb xs x kn l v w') (hg : w'.grownBy w'' (v 5).ownBlock) (hy : w''.ownsRow w.heap.size e 1 y (xs.length + 1) (xs ++ [x])) : AJ w B o e cs tb xs x kn (doneL l 9) (doneV v 9 y) w'' := by
  have h11 : l 11 = false := H.not (by omega) hl
  have n11 : doneL l 9 11 = false := by unfold doneL; rw [if_neg (by omega)]; exact h11
  have eL : ∀ j, j ≠ 9 → doneL l 9 j = l j := fun j h => by unfold doneL; rw [if_neg h]
  have eV : ∀ j, j ≠ 9 → doneV v 9 y j = v j := fun j h => by unfold doneV; rw [if_neg h]
  have i9 : doneL l 9 9 = true := by unfold doneL; rw [if_pos rfl]
  have iV : doneV v 9 y 9 = y := by unfold doneV; rw [if_pos rfl]
  have own := H.e5 h5 hl
  have hlow := H.low h11
  refine ⟨fun g => by (rw [n11] at g; cases g), fun _ => hlow.grown hg hlow.size (fun k hk => (own.lt k hk).1), fun j hj g => ?_, fun g g' => ?_, fun g g' => by (rw [i9] at g'; cases g'), fun g g' => by (rw [i9] at g'; cases g'), fun g g' => by (rw [iV]; exact hy), fun g => by (rw [n11] at g; cases g)⟩
  · rw [eL j (by omega)] at g; rw [eV j (by omega)]; exact H.kn j hj g
  · rw [eL 5 (by omega), h5] at g'; cases g'
/-- The store. -/
theorem AJ.put11 (hB : Blk w B cs tb) (hl : l 11 = false) (hall : ∀ i, i < 11 → l i = true) (H : AJ w B o e cs tb xs x kn l v w') (hx : xs ++ [x] ≠ []) : AJ w B o e cs tb xs x kn (doneL l 11) (doneV v 11 undef) (w'.setCell ⟨B, o, none⟩ (v 9)) := by
  have eL : ∀ j, j ≠ 11 → doneL l 11 j = l j := fun j h => by unfold doneL; rw [if_neg h]
  have eV : ∀ j, j ≠ 11 → doneV v 11 undef j = v j := fun j h => by unfold doneV; rw [if_neg h]
  have i11 : doneL l 11 11 = true := by unfold doneL; rw [if_pos rfl]
  have hlow := H.low hl
  have own := H.e9 (hall 9 (by omega)) hl
  refine ⟨fun _ i hi => by (rw [eL i (by omega)]; exact hall i hi), fun g => by (rw [i11] at g; cases g), fun j hj g => ?_, fun g g' => ?_, fun g g' => ?_, fun g g' => ?_, fun g g' => by (rw [i11] at g'; cases g'), fun _ => ⟨v 9, ?_, ?_, ?_, fun h => absurd h hx⟩⟩
  · rw [eL j (by omega)] at g; rw [eV j (by omega)]; exact H.kn j hj g
  · rw [eL 5 (by omega), hall 5 (by omega)] at g'; cases g'
  · rw [eL 9 (by omega), hall 9 (by omega)] at g'; cases g'
  · rw [eL 9 (by omega), hall 9 (by omega)] at g'; cases g'
  · exact (Turn.of_below hlow).setCell (Or.inl (by simp)) _
  · exact (hB.below hlow).set o (v 9)
  · have hlen : (xs ++ [x]).length = xs.length + 1 := by simp
    rw [hlen]
    refine own.kept (row := some B) ⟨rfl, rfl, rfl, by simp [World.setCell], fun k hk hne => Below.heap_setCell _ _ _ _ (fun hh => hne (by rw [hh]))⟩ (Or.inr fun hh => ?_)
    have := (own.lt B hh).1
    have := hB.lt
    omega
end
section
variable {P : Program}
theorem opY_append {o : Oper} {ρ : Operand → Value} {w w' : World} {R : Value → World → Prop} {s x : Operand} {t : TypeId} {vs vx v' : Value}
    (ho : o.op = .call { callee := .builtin .append, args := #[s, x], argTypes := #[t, t] }) (hs : ρ s = vs) (hx : ρ x = vx) (hrun : (Builtin.append_ #[t, t] o.type #[vs, vx]).run P w = .ok v' w') (h : R v' w') : OpY P o ρ w R := by
  unfold OpY OpR execOp
  simp only [ho, resolve, invoke, builtin, Sem.run_bind, Sem.run_pure, Result.andThen_ok, List.map_toArray, List.map_cons, List.map_nil, hs, hx, hrun]
  exact h
variable {ops : Array Oper} {Q : Exit → Act → World → Prop}
theorem wp_region_app {id : Nat} {a : Act} {aF : (Nat → Value) → Act} {w : World} (B o : Nat) (e : TypeId) (cs : Array Value) (tb : TypeId) (xs : List Value) (x : Value) (kn : Nat → Value)
    (hF : ∀ vals, putAll ops vals (fun _ => true) a ops.size = aF vals) (hm : P.follows .mixedOrders = true) (hd : dstsApart ops = true) (hb : edgesBackB ops = true) (hng : guardsOk ops = true)
    (hsz : (List.range ops.size).all (fun i => match dstOf ops i with | some d => decide (d < a.tmps.size) | none => true) = true)
    (h12 : ops.size = 12)
    (hstep : EachOp (fun i o' => StepJ P ops (AJ w B o e cs tb xs x kn) a i o') 0 ops.toList)
    (hdone : ∀ (vals : Nat → Value) w', (∃ v9, Turn [B] w w' ∧ Blk w' B (cs.setIfInBounds o v9) tb ∧ RowV w' w.heap.size e v9 (xs ++ [x])) → Q .normal (aF vals) w') :
    (Code.region id ops true).wp P Q a w :=
  wp_region_inv' (AJ w B o e cs tb xs x kn) hF hm hd hb hng hsz (fun l l' v w' h H => H.ext (fun i hi => h i (by omega))) (AJ.start w B o e cs tb xs x kn) hstep (fun vals w' H => hdone vals w' (H.fin rfl))
end
end Go.Proofs.Ytaklfjjkeebheaa
