/-
  What DeltaBack keeps: a coder and a writer, what was told, another coder; and a region with two calls that turn the world, one behind the other.
-/
import Derived.Test.YtokkafiphchejaaDoorDeG4
import Derived.Test.YtokkafiphchejaaDoorDeR6
import Derived.Test.YtokkafiphchejaaDoorDeG3
import Derived.Maps.AppendAt
namespace Go.Proofs.YtokkafiphchejaaDoor
set_option linter.unusedVariables false
set_option linter.unusedSimpArgs false
set_option linter.unusedVariables false
open Go Go.RowKit
/-- Two steps that turn the world, among others that do not. -/
structure Two (S0 S1 S2 : World → Prop) (n p q t : Nat) (l : Nat → Bool) (w : World) : Prop where
  s0 : l p = false → S0 w
  s1 : l p = true → l q = false → S1 w
  s2 : l q = true → S2 w
  o : l q = true → l p = true
  o2 : l t = true → l q = true
section
variable {S0 S1 S2 : World → Prop} {n p q t : Nat} {l l' : Nat → Bool} {w w' : World}
theorem Two.ext (hp : p < n) (hq : q < n) (ht : t < n) (h : ∀ i, i < n → l i = l' i) (H : Two S0 S1 S2 n p q t l w) : Two S0 S1 S2 n p q t l' w where
  s0 g := H.s0 (by rw [h p hp]; exact g)
  s1 g g' := H.s1 (by rw [h p hp]; exact g) (by rw [h q hq]; exact g')
  s2 g := H.s2 (by rw [h q hq]; exact g)
  o g := by rw [← h p hp]; exact H.o (by rw [h q hq]; exact g)
  o2 g := by rw [← h q hq]; exact H.o2 (by rw [h t ht]; exact g)
theorem Two.start (h : S0 w) : Two S0 S1 S2 n p q t (fun _ => false) w := ⟨fun _ => h, fun h => by (cases h), fun h => by (cases h), fun h => by (cases h), fun h => by (cases h)⟩
theorem Two.put {i : Nat} (H : Two S0 S1 S2 n p q t l w) (h1 : i ≠ p) (h2 : i ≠ q) (h3 : i = t → l q = true) : Two S0 S1 S2 n p q t (doneL l i) w := by
  have e1 : doneL l i p = l p := by unfold doneL; rw [if_neg (Ne.symm h1)]
  have e2 : doneL l i q = l q := by unfold doneL; rw [if_neg (Ne.symm h2)]
  exact ⟨by rw [e1]; exact H.s0, by rw [e1, e2]; exact H.s1, by rw [e2]; exact H.s2, by rw [e1, e2]; exact H.o, fun g => by
    rw [e2]
    by_cases hi : i = t
    · exact h3 hi
    · refine H.o2 ?_
      unfold doneL at g
      rwa [if_neg (Ne.symm hi)] at g⟩
theorem Two.first (H : Two S0 S1 S2 n p q t l w) (hl : l p = false) (hne : p ≠ q) (hpt : p ≠ t) (h : S1 w') : Two S0 S1 S2 n p q t (doneL l p) w' := by
  have e1 : doneL l p p = true := by unfold doneL; rw [if_pos rfl]
  have e2 : doneL l p q = l q := by unfold doneL; rw [if_neg (Ne.symm hne)]
  have lq : l q = false := by cases h : l q with | false => rfl | true => rw [H.o h] at hl; cases hl
  exact ⟨fun g => by (rw [e1] at g; cases g), fun _ _ => h, fun g => by (rw [e2, lq] at g; cases g), fun _ => e1, fun g => by
    unfold doneL at g
    rw [if_neg (Ne.symm hpt)] at g
    rw [H.o2 g] at lq; cases lq⟩
theorem Two.second (H : Two S0 S1 S2 n p q t l w) (hl : l q = false) (hp : l p = true) (hne : p ≠ q) (h : S2 w') : Two S0 S1 S2 n p q t (doneL l q) w' := by
  have e1 : doneL l q p = true := by unfold doneL; rw [if_neg hne]; exact hp
  have e2 : doneL l q q = true := by unfold doneL; rw [if_pos rfl]
  exact ⟨fun g => by (rw [e1] at g; cases g), fun _ g => by (rw [e2] at g; cases g), fun _ => h, fun _ => e1, fun _ => e2⟩
/-- What stands in all three worlds. -/
theorem Two.all {R : World → Prop} (H : Two S0 S1 S2 n p q t l w) (h0 : ∀ w, S0 w → R w) (h1 : ∀ w, S1 w → R w) (h2 : ∀ w, S2 w → R w) : R w := by
  cases hp : l p with
  | false => exact h0 _ (H.s0 hp)
  | true => cases hq : l q with
    | false => exact h1 _ (H.s1 hp hq)
    | true => exact h2 _ (H.s2 hq)
end
theorem dinfoEv : (Tryd.prog.info? 33).map (fun i => (i.zero, i.size, i.bytes)) = some (some (.agg #[.int .u8 0, .int .i64 0, .int .i64 0, .int .i64 0, .int .i64 0, .int .i64 0, .int .u8 0]), 7, 56) := by kernel_rfl
theorem devL_one (e : Ev) : ∀ u ∈ evL e, u.oneCell' = true := by
  intro u hu
  simp only [evL, List.mem_cons, List.not_mem_nil, or_false] at hu
  rcases hu with rfl | rfl | rfl | rfl | rfl | rfl | rfl <;> rfl
theorem devL_arr {e : Ev} {j : Nat} {u : Value} (h : (evL e)[j]? = some u) : (evC e)[j]? = some u := by
  rw [← h]; simp [evC, evL]
/-- What the first loop keeps: of these the writer has been told; those stand in the slice. -/
structure BkI (T V S : Int) (W : World) (C D b M : Nat) (me : Ev) (tw ts : List Ev) (u tv : Value) (wr : World) : Prop where
  wd : Wd T V S (cAll newC tw) C b 16777216 (bytesAll T newC tw) (b + 1) u wr
  co : Blk wr D (cdrA T V S newC) 74
  ok : ToldOk T V S newC tw
  eo : ∀ e ∈ tw, EvOk e
  own : wr.ownsRow (b + 1) 33 7 tv ts.length (ts.flatMap evL)
  dj : ∀ g, u.ownBlock = some g → tv.ownBlock ≠ some g
  mo : Blk wr M (evC me) 33
  be : Below W.heap.size W wr
section
variable {T V S : Int} {W : World} {C D b M : Nat} {me : Ev} {tw ts : List Ev} {u tv : Value} {wr w' : World}
theorem dgrown_below {w w' : World} (hb : Below w.heap.size w w') : w.grownBy w' none := ⟨hb.os, hb.tape, hb.output, hb.size, fun k hk _ => hb.block k hk⟩
theorem BkI.below (h : BkI T V S W C D b M me tw ts u tv wr) (hb : Below wr.heap.size wr w') : BkI T V S W C D b M me tw ts u tv w' :=
  ⟨h.wd.below hb, h.co.below hb, h.ok, h.eo, h.own.kept (dgrown_below hb) (by cases tv.ownBlock <;> simp), h.dj, h.mo.below hb, ext_trans h.be hb⟩
/-- An event is written. -/
theorem BkI.write (h : BkI T V S W C D b M me tw ts u tv wr) (hM : W.heap.size ≤ M ∧ M < C ∧ C < D ∧ D < b) {e : Ev} (hok : EvOk e) (ht : tellsC T V S (cAll newC tw) e = true) {e' : Ending} (hw : WrYes T V S (cAll newC tw) e C b 16777216 (bytesAll T newC tw) (b + 1) u wr e' w') :
    e' = .returned (.int .i64 0) ∧ ∃ u', BkI T V S W C D b M me (tw ++ [e]) ts u' tv w' := by
  obtain ⟨he, u', hd, hu, hT⟩ := hw
  obtain ⟨t1, t2, t3⟩ := told_snoc h.ok ht hok.2.2.2.2.2.1
  obtain ⟨m1, m2, m3, m4⟩ := hM
  have hun : ∀ k, k < b + 1 → k ≠ C → k ≠ b → k ∉ C :: b :: u.ownBlock.toList := by
    intro k hk h1 h2 hm
    rcases List.mem_cons.1 hm with e | hm
    · exact h1 e
    rcases List.mem_cons.1 hm with e | hm
    · exact h2 e
    have := (h.wd.wr.own.lt k (by simpa using hm)).1
    omega
  refine ⟨he, u', ?_, hT.blk (hun D (by omega) (by omega) (by omega)) h.co, t1, ?_, ?_, ?_, hT.blk (hun M (by omega) (by omega) (by omega)) h.mo, h.be.trans (h.wd.low hT (by omega) (by omega))⟩
  · rw [t2, t3]; exact hd
  · intro x hx
    rcases List.mem_append.1 hx with hx | hx
    · exact h.eo x hx
    · rw [List.mem_singleton.1 hx]; exact hok
  · refine own_turn h.own hT fun g hg hm => ?_
    rcases List.mem_cons.1 hm with e | hm
    · have := (h.own.lt g hg).1; omega
    rcases List.mem_cons.1 hm with e | hm
    · have := (h.own.lt g hg).1; omega
    exact h.dj g (by simpa using hm) hg
  · intro g hg hv
    rcases hu with e | ⟨g', e, hg'⟩
    · exact h.dj g (by rw [← e]; exact hg) hv
    · rw [hg] at e; cases e
      have := (h.own.lt g hv).2
      omega
/-- An event more in the slice. -/
theorem BkI.app (h : BkI T V S W C D b M me tw ts u tv wr) (hM : W.heap.size ≤ M ∧ M < C ∧ C < D ∧ D < b) {e : Ev} (hl : ts.length ≤ 1000) :
    ∃ tv' w', (Builtin.append_ #[22, 22] 22 #[tv, .slice (some ⟨wr.heap.size, 0, none⟩) 1 1]).run Tryd.prog (wr.alloc (.cells (evC e) 33)) = .ok tv' w' ∧ (∃ g c, tv' = .slice (some ⟨g, 0, none⟩) (ts.length + 1) c) ∧ BkI T V S W C D b M me tw (ts ++ [e]) u tv' w' := by
  obtain ⟨m1, m2, m3, m4⟩ := hM
  have h1 : BkI T V S W C D b M me tw ts u tv (wr.alloc (.cells (evC e) 33)) := h.below (ext_alloc (ext_refl _) _)
  obtain ⟨i0, hi0, hz0, hz1, hz2⟩ := info_parts dinfoEv
  obtain ⟨v', w', hrun, hown', hg, -, hv⟩ := run_append_own_at (P := Tryd.prog) (wr.alloc (.cells (evC e) 33)) (b + 1) 22 22 33 i0 _ 7 56 Tryd.underlying22 hi0 hz0 hz1 hz2 rfl (by decide) tv _ _ h1.own ⟨wr.heap.size, 0, none⟩ 1 1 (evL e) rfl
    (fun j u hu => by
      have hh : (⟨wr.heap.size, 0, none⟩ : Addr).add j = ⟨wr.heap.size, j, none⟩ := by unfold Addr.add; split <;> simp_all
      rw [hh]; exact (Blk.new wr (evC e) 33).cell j (devL_arr hu)) (devL_one e) (by unfold maxLen; omega) (by omega) (by have := h1.wd.le; omega)
  have hbelow : ∀ k, tv.ownBlock = some k → b + 1 ≤ k := fun k hk => (h1.own.lt k hk).1
  have hblk : ∀ {k cs t}, Blk (wr.alloc (.cells (evC e) 33)) k cs t → k < b + 1 → Blk w' k cs t := by
    intro k cs t hk hlt
    unfold Blk at hk ⊢
    rw [hg.block k (Blk.lt hk) (fun hh => by have := hbelow k hh.symm; omega)]
    exact hk
  have hnew : ∃ g c, v' = .slice (some ⟨g, 0, none⟩) (ts.length + 1) c := by
    rcases hown'.2 with ⟨_, h0⟩ | ⟨g, c, cur, hh, -⟩
    · omega
    · exact ⟨g, c, hh⟩
  refine ⟨v', w', hrun, hnew, ⟨hblk h1.wd.co (by omega), ⟨hblk h1.wd.wr.blk (by omega), h1.wd.wr.own.kept hg ?_, h1.wd.wr.lt⟩, h1.wd.ok, h1.wd.sz, h1.wd.ne, h1.wd.lt, Nat.le_trans h1.wd.le hg.size, h1.wd.mo⟩, hblk h1.co (by omega), h1.ok, h1.eo, ?_, ?_, hblk h1.mo (by omega), h1.be.grown hg h1.be.size (fun k hk => by have := hbelow k hk; omega)⟩
  · cases hu : u.ownBlock with
    | none => exact Or.inl rfl
    | some g => exact Or.inr fun hh => h1.dj g hu hh.symm
  · have : (ts ++ [e]).flatMap evL = ts.flatMap evL ++ evL e := by simp
    rw [this, List.length_append]
    exact hown'
  · intro g hg' hh
    rcases hv with e | e
    · exact h1.dj g hg' (by rw [← e]; exact hh)
    · rw [e] at hh; cases hh
      have := (h1.wd.wr.own.lt _ hg').2
      have := (h.wd.wr.own.lt _ hg').2
      omega
end
end Go.Proofs.YtokkafiphchejaaDoor
