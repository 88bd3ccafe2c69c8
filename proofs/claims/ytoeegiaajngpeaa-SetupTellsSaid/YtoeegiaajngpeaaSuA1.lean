/-
  Several copies of one setup, each in places of its own.
-/
import Derived.Test.YtoeegiaajngpeaaCpU
import Derived.Test.YtoeegiaajngpeaaRegI
import Derived.Test.YtoeegiaajngpeaaSaB
namespace Go.Proofs.Ytoeegiaajngpeaa
set_option linter.unusedVariables false
set_option linter.unusedSimpArgs false
set_option linter.unusedVariables false
open Go Go.RowKit
/-- A copy that was made in the places from lo to hi, as it lies in w: its threads from B on. -/
def CpAt (lo hi B : Nat) (is : List Int) (ths : List (List (List St))) (vi v : Value) (w : World) : Prop :=
  ∃ (w1 : World) (news : List Value), w1.heap.size = hi ∧ lo ≤ B ∧ RowG (R1 (RdThO lo)) 1 32 w1 B ths ths.length v news ∧ w1.ownsRow lo 2 1 vi is.length (is.map (Value.int .i64)) ∧
    (∀ g, vi.ownBlock = some g → g < B) ∧ Agree lo hi w1 w ∧ hi ≤ w.heap.size
theorem CpAt.of {st ck tr : Int} {is : List Int} {ths : List (List (List St))} {w w' : World} {e : Ending} (h : SCopyO st ck tr is ths w e w') :
    ∃ p c A d B, e = .returned (.agg #[.int .i64 st, .int .i64 ck, .int .i64 tr, .slice p is.length c, .slice A ths.length d]) ∧ Below w.heap.size w w' ∧ CpAt w.heap.size w'.heap.size B is ths (.slice p is.length c) (.slice A ths.length d) w' := by
  obtain ⟨vi, B, v, news, rfl, hb, hB, hrow, how, hlt⟩ := h
  obtain ⟨p, c, rfl⟩ := owns_slice how
  obtain ⟨A, d, rfl⟩ := rowG_slice hrow
  exact ⟨p, c, A, d, B, rfl, hb, w', news, rfl, hB, hrow, how, hlt, Agree.refl _ _ _, Nat.le_refl _⟩
theorem CpAt.agree {lo hi B : Nat} {is : List Int} {ths : List (List (List St))} {vi v : Value} {w w' : World} (h : CpAt lo hi B is ths vi v w) (ha : Agree lo hi w w') (hs : hi ≤ w'.heap.size) : CpAt lo hi B is ths vi v w' := by
  obtain ⟨w1, news, h1, h2, h3, h4, h5, h6, h7⟩ := h
  exact ⟨w1, news, h1, h2, h3, h4, h5, h6.trans ha, hs⟩
theorem CpAt.below {lo hi B : Nat} {is : List Int} {ths : List (List (List St))} {vi v : Value} {w w' : World} (h : CpAt lo hi B is ths vi v w) (hb : Below w.heap.size w w') : CpAt lo hi B is ths vi v w' := by
  have h7 : hi ≤ w.heap.size := by obtain ⟨_, _, _, _, _, _, _, _, h⟩ := h; exact h
  exact h.agree ((Agree.of_below hb).sub (Nat.le_refl _) h7) (Nat.le_trans h7 hb.size)
theorem CpAt.hi {lo hi B : Nat} {is : List Int} {ths : List (List (List St))} {vi v : Value} {w : World} (h : CpAt lo hi B is ths vi v w) : hi ≤ w.heap.size ∧ lo ≤ B ∧ B ≤ hi := by
  obtain ⟨w1, news, h1, h2, h3, h4, h5, h6, h7⟩ := h
  exact ⟨h7, h2, by have := h3.2.1; omega⟩
/-- Its threads read so, as long as the places from B on are as they were. -/
theorem CpAt.ths' {lo hi B : Nat} {is : List Int} {ths : List (List (List St))} {vi v : Value} {w : World} (h : CpAt lo hi B is ths vi v w) (hl : ths.length ≤ 9223372036854775807) {w'' : World} (ha : Agree B hi w w'') : RdThs w'' ths v := by
  obtain ⟨w1, news, h1, h2, h3, h4, h5, h6, h7⟩ := h
  subst h1
  have := rowG_end hl h3 w'' ((h6.sub h2 (Nat.le_refl _)).trans ha)
  exact RdSl.mono (fun _ _ h => h.1.1) (RdSl.of_G this)
theorem CpAt.owns {lo hi B : Nat} {is : List Int} {ths : List (List (List St))} {vi v : Value} {w : World} (h : CpAt lo hi B is ths vi v w) : w.ownsRow lo 2 1 vi is.length (is.map (Value.int .i64)) ∧ ∀ g, vi.ownBlock = some g → lo ≤ g ∧ g < B := by
  obtain ⟨w1, news, h1, h2, h3, h4, h5, h6, h7⟩ := h
  subst h1
  exact ⟨ownsRow_frame h4 fun g hg => h6 g (h4.lt g hg).1 (h4.lt g hg).2, fun g hg => ⟨(h4.lt g hg).1, h5 g hg⟩⟩
theorem CpAt.row {lo hi B : Nat} {is : List Int} {ths : List (List (List St))} {vi v : Value} {w : World} (h : CpAt lo hi B is ths vi v w) : ∃ news, RowG (R1 (RdThO lo)) 1 32 w B ths ths.length v news ∧ ∀ g, v.ownBlock = some g → B ≤ g ∧ g < hi := by
  obtain ⟨w1, news, h1, h2, h3, h4, h5, h6, h7⟩ := h
  subst h1
  exact ⟨news, rowG_agree h3 (h6.sub h2 (Nat.le_refl _)) h7, fun g hg => rowG_own h3 g hg⟩
theorem CpAt.ints' {lo hi B : Nat} {is : List Int} {ths : List (List (List St))} {vi v : Value} {w w'' : World} (h : CpAt lo hi B is ths vi v w) (hr : ∀ x ∈ is, -9223372036854775808 ≤ x ∧ x ≤ 9223372036854775807) (ha : ∀ g, vi.ownBlock = some g → w''.heap[g]? = w.heap[g]?) : RdInts w'' is vi :=
  ints_of_own hr (ownsRow_frame h.owns.1 ha) (Nat.le_refl _) (Nat.le_refl _) (Agree.refl lo w''.heap.size w'')
/-- A row is a longer one's beginning. -/
theorem rowG_more {α : Type} {R : World → α → List Value → Prop} {m : Nat} {T : TypeId} {wr : World} {B k : Nat} {l l' : List α} {v : Value} {news : List Value} (h : RowG R m T wr B l k v news) (hk : k ≤ l.length) : RowG R m T wr B (l ++ l') k v news := by
  obtain ⟨h1, h2, h3⟩ := h
  refine ⟨h1, h2, fun j hj hjk => ?_⟩
  obtain ⟨cs, lo, hi, e⟩ := h3 j (by omega) hjk
  rw [List.getElem_append_left (by omega)]
  exact ⟨cs, lo, hi, e⟩
theorem xor_par (n : Nat) : (n ^^^ 1) % 2 ≠ n % 2 := by
  intro h
  have : (n ^^^ 1).testBit 0 = n.testBit 0 := by simp only [Nat.testBit_zero]; rw [h]
  rw [Nat.testBit_xor] at this
  simp at this
theorem xor_one_ne (ck : Int) : bits .xor .i64 ck 1 ≠ ck := by
  have h : bits .xor .i64 ck 1 = IntKind.i64.wrap (((ck % 18446744073709551616).toNat ^^^ 1 : Nat) : Int) := by
    unfold bits
    simp only [IntKind.bits, BitVec.toNat_xor, BitVec.toNat_ofInt]
    rfl
  rw [h]
  have hp := xor_par (ck % 18446744073709551616).toNat
  generalize ((ck % 18446744073709551616).toNat ^^^ 1) = y at *
  simp only [IntKind.wrap, IntKind.signed, IntKind.bits]
  simp
  omega
/-- A place outside of an interval. -/
def OutI (b lo hi : Nat) : Prop := b < lo ∨ hi ≤ b
/-- A store into a box, a new block, and an append to an own row: what stays. -/
theorem step_keep {W0 W2 : World} {b i : Nat} {x : Value} {o : Obj} {r : Option Nat} (hg : ((W0.setCell ⟨b, i, none⟩ x).alloc o).grownBy W2 r) : ∀ k, k < W0.heap.size → k ≠ b → r ≠ some k → W2.heap[k]? = W0.heap[k]? := fun k hk hkb hr => by
  rw [hg.block k (by simp; omega) (fun h => hr h.symm), (ext_alloc (ext_refl (W0.setCell ⟨b, i, none⟩ x)) o).block k (by rw [size_setCell]; exact hk)]
  exact Below.heap_setCell W0 _ _ k (by dsimp only; omega)
theorem step_box {W0 W2 : World} {b i : Nat} {x : Value} {o : Obj} {r : Option Nat} {cs : Array Value} {t : TypeId} (hg : ((W0.setCell ⟨b, i, none⟩ x).alloc o).grownBy W2 r) (h : Blk W0 b cs t) (hr : r ≠ some b) : Blk W2 b (cs.setIfInBounds i x) t := by
  have hl := h.lt
  refine blk_keep (h.set i x) ?_
  rw [hg.block b (by simp; omega) (fun h => hr h.symm), (ext_alloc (ext_refl (W0.setCell ⟨b, i, none⟩ x)) o).block b (by rw [size_setCell]; exact hl)]
theorem step_agree {W0 W2 : World} {b i lo hi : Nat} {x : Value} {o : Obj} {r : Option Nat} (hg : ((W0.setCell ⟨b, i, none⟩ x).alloc o).grownBy W2 r) (hh : hi ≤ W0.heap.size) (hb : OutI b lo hi) (hr : ∀ g, r = some g → OutI g lo hi) : Agree lo hi W0 W2 := fun k h1 h2 =>
  step_keep hg k (by omega) (fun h => by unfold OutI at hb; omega) (fun h => by have := hr k h; unfold OutI at this; omega)
theorem step_size {W0 W2 : World} {b i : Nat} {x : Value} {o : Obj} {r : Option Nat} (hg : ((W0.setCell ⟨b, i, none⟩ x).alloc o).grownBy W2 r) : W0.heap.size < W2.heap.size := by have := hg.size; simp at this; omega
/-- Numbers, and one more. -/
theorem ints_more {w : World} {base : Nat} {v : Value} {l : List Int} {x : Int} (hr : ∀ y ∈ l, -9223372036854775808 ≤ y ∧ y ≤ 9223372036854775807) (hx : -9223372036854775808 ≤ x ∧ x ≤ 9223372036854775807)
    (h : w.ownsRow base 2 1 v (l.length + 1) (l.map (Value.int .i64) ++ [.int .i64 x])) : ∀ w'', (∀ g, v.ownBlock = some g → w''.heap[g]? = w.heap[g]?) → RdInts w'' (l ++ [x]) v := by
  intro w'' hw
  have h' : w''.ownsRow base 2 1 v (l ++ [x]).length ((l ++ [x]).map (Value.int .i64)) := by
    rw [List.length_append, List.map_append]
    exact ownsRow_frame h hw
  refine ints_of_own (fun y hy => ?_) h' (Nat.le_refl _) (Nat.le_refl _) (Agree.refl base w''.heap.size w'')
  rcases List.mem_append.1 hy with hy | hy
  · exact hr y hy
  · rw [List.mem_singleton.1 hy]; exact hx
theorem mem_set_of' {α : Type} {l : List α} {k : Nat} {y x : α} (h : x ∈ l.set k y) : x = y ∨ x ∈ l := by
  rcases List.mem_or_eq_of_mem_set h with h | h
  · exact .inr h
  · exact .inl h
/-- An empty box of a setup. -/
def ZS : Array Value := #[.int .i64 0, .int .i64 0, .int .i64 0, .slice none 0 0, .slice none 0 0]
def AlV (st ck tr : Int) (is : List Int) (ths : List (List (List St))) (AS : Value) (lo0 : Nat) : Nat → Value → Nat × Nat → World → Prop
  | 0, x, _, _ => x = AS
  | 2, x, _, _ => x = AS
  | 4, x, _, _ => x = AS
  | 1, x, iv, w => ∃ p c A d B, x = .agg #[.int .i64 st, .int .i64 ck, .int .i64 tr, .slice p is.length c, .slice A ths.length d] ∧ lo0 ≤ iv.1 ∧ CpAt iv.1 iv.2 B is ths (.slice p is.length c) (.slice A ths.length d) w
  | 3, x, iv, w => ∃ p c A d B, x = .agg #[.int .i64 st, .int .i64 ck, .int .i64 tr, .slice p is.length c, .slice A ths.length d] ∧ lo0 ≤ iv.1 ∧ CpAt iv.1 iv.2 B is ths (.slice p is.length c) (.slice A ths.length d) w
  | 5, x, iv, w => ∃ p c A d B, x = .agg #[.int .i64 st, .int .i64 ck, .int .i64 tr, .slice p is.length c, .slice A ths.length d] ∧ lo0 ≤ iv.1 ∧ CpAt iv.1 iv.2 B is ths (.slice p is.length c) (.slice A ths.length d) w
  | 6, x, iv, w => x = .pointer (some ⟨iv.1, 0, none⟩) ∧ lo0 ≤ iv.1 ∧ iv.1 < iv.2 ∧ Blk w iv.1 ZS 25
  | 7, x, iv, w => x = .pointer (some ⟨iv.1, 0, none⟩) ∧ lo0 ≤ iv.1 ∧ iv.1 < iv.2 ∧ Blk w iv.1 ZS 25
  | 8, x, iv, w => x = .pointer (some ⟨iv.1, 0, none⟩) ∧ lo0 ≤ iv.1 ∧ iv.1 < iv.2 ∧ Blk w iv.1 ZS 25
  | _, _, _, _ => True
theorem AlV.stab {st ck tr : Int} {is : List Int} {ths : List (List (List St))} {AS : Value} {lo0 i : Nat} {x : Value} {iv : Nat × Nat} {w w' : World} (h : AlV st ck tr is ths AS lo0 i x iv w) (hb : Below w.heap.size w w') : AlV st ck tr is ths AS lo0 i x iv w' := by
  have hcp : (∃ p c A d B, x = .agg #[.int .i64 st, .int .i64 ck, .int .i64 tr, .slice p is.length c, .slice A ths.length d] ∧ lo0 ≤ iv.1 ∧ CpAt iv.1 iv.2 B is ths (.slice p is.length c) (.slice A ths.length d) w) →
      ∃ p c A d B, x = .agg #[.int .i64 st, .int .i64 ck, .int .i64 tr, .slice p is.length c, .slice A ths.length d] ∧ lo0 ≤ iv.1 ∧ CpAt iv.1 iv.2 B is ths (.slice p is.length c) (.slice A ths.length d) w' := by
    rintro ⟨p, c, A, d, B, h1, h2, h3⟩
    exact ⟨p, c, A, d, B, h1, h2, h3.below hb⟩
  have hbx : (x = .pointer (some ⟨iv.1, 0, none⟩) ∧ lo0 ≤ iv.1 ∧ iv.1 < iv.2 ∧ Blk w iv.1 ZS 25) → x = .pointer (some ⟨iv.1, 0, none⟩) ∧ lo0 ≤ iv.1 ∧ iv.1 < iv.2 ∧ Blk w' iv.1 ZS 25 := fun h => ⟨h.1, h.2.1, h.2.2.1, h.2.2.2.below hb⟩
  match i, h with
  | 0, h => exact h
  | 2, h => exact h
  | 4, h => exact h
  | 1, h => exact hcp h
  | 3, h => exact hcp h
  | 5, h => exact hcp h
  | 6, h => exact hbx h
  | 7, h => exact hbx h
  | 8, h => exact hbx h
  | n + 9, h => trivial
/-- Three copies, three boxes, all apart. -/
structure AlD (lo0 : Nat) (l1 h1 l3 h3 l5 h5 b6 b7 b8 : Nat) : Prop where
  g : lo0 ≤ l1 ∧ lo0 ≤ l3 ∧ lo0 ≤ l5 ∧ lo0 ≤ b6 ∧ lo0 ≤ b7 ∧ lo0 ≤ b8
  a13 : h1 ≤ l3 ∨ h3 ≤ l1
  a15 : h1 ≤ l5 ∨ h5 ≤ l1
  a35 : h3 ≤ l5 ∨ h5 ≤ l3
  b61 : OutI b6 l1 h1
  b63 : OutI b6 l3 h3
  b65 : OutI b6 l5 h5
  b71 : OutI b7 l1 h1
  b73 : OutI b7 l3 h3
  b75 : OutI b7 l5 h5
  b81 : OutI b8 l1 h1
  b83 : OutI b8 l3 h3
  b85 : OutI b8 l5 h5
  n67 : b6 ≠ b7
  n68 : b6 ≠ b8
  n78 : b7 ≠ b8
/-- What is known while the copies are laid into their boxes. -/
structure AlC (st ck tr : Int) (is : List Int) (ths : List (List (List St))) (Wr : World) (l1 h1 l3 h3 l5 h5 b6 b7 b8 : Nat) (p1 c1 A1 d1 B1 p3 c3 A3 d3 B3 p5 c5 A5 d5 B5) (n : Nat) (w : World) : Prop where
  bel : Below Wr.heap.size Wr w
  D : AlD Wr.heap.size l1 h1 l3 h3 l5 h5 b6 b7 b8
  x1 : CpAt l1 h1 B1 is ths (.slice p1 is.length c1) (.slice A1 ths.length d1) w
  x3 : CpAt l3 h3 B3 is ths (.slice p3 is.length c3) (.slice A3 ths.length d3) w
  x5 : CpAt l5 h5 B5 is ths (.slice p5 is.length c5) (.slice A5 ths.length d5) w
  y6 : Blk w b6 (if 9 < n then #[.int .i64 st, .int .i64 ck, .int .i64 tr, .slice p1 is.length c1, .slice A1 ths.length d1] else ZS) 25
  y7 : Blk w b7 (if 10 < n then #[.int .i64 st, .int .i64 ck, .int .i64 tr, .slice p3 is.length c3, .slice A3 ths.length d3] else ZS) 25
  y8 : Blk w b8 (if 11 < n then #[.int .i64 st, .int .i64 ck, .int .i64 tr, .slice p5 is.length c5, .slice A5 ths.length d5] else ZS) 25
theorem agree_set_out {b o lo hi : Nat} {w : World} {v : Value} (h : OutI b lo hi) : Agree lo hi w (w.setCell ⟨b, o, none⟩ v) := fun k hk1 hk2 => Below.heap_setCell w _ _ k (by rcases h with h | h <;> (dsimp only; omega))
/-- Five cells of a box at once. -/
@[reducible] def set5 (w : World) (b : Nat) (st ck tr : Int) (vi v : Value) : World := ((((w.setCell ⟨b, 0, none⟩ (.int .i64 st)).setCell ⟨b, 1, none⟩ (.int .i64 ck)).setCell ⟨b, 2, none⟩ (.int .i64 tr)).setCell ⟨b, 3, none⟩ vi).setCell ⟨b, 4, none⟩ v
theorem set5_agree {w : World} {b lo hi : Nat} {st ck tr : Int} {vi v : Value} (h : OutI b lo hi) : Agree lo hi w (set5 w b st ck tr vi v) := ((((agree_set_out h).trans (agree_set_out h)).trans (agree_set_out h)).trans (agree_set_out h)).trans (agree_set_out h)
theorem set5_size {w : World} {b : Nat} {st ck tr : Int} {vi v : Value} : (set5 w b st ck tr vi v).heap.size = w.heap.size := by simp [set5, size_setCell]
theorem set5_blk {w : World} {b : Nat} {st ck tr : Int} {vi v : Value} (h : Blk w b ZS 25) : Blk (set5 w b st ck tr vi v) b #[.int .i64 st, .int .i64 ck, .int .i64 tr, vi, v] 25 := by
  simpa [ZS] using ((((h.set 0 (.int .i64 st)).set 1 (.int .i64 ck)).set 2 (.int .i64 tr)).set 3 vi).set 4 v
theorem set5_other {w : World} {b b' : Nat} {st ck tr : Int} {vi v : Value} {cs : Array Value} {t : TypeId} (h : Blk w b' cs t) (hne : b ≠ b') : Blk (set5 w b st ck tr vi v) b' cs t :=
  ((((h.set_other _ _ (by dsimp only; omega)).set_other _ _ (by dsimp only; omega)).set_other _ _ (by dsimp only; omega)).set_other _ _ (by dsimp only; omega)).set_other _ _ (by dsimp only; omega)
theorem set5_below {Wr w : World} {b : Nat} {st ck tr : Int} {vi v : Value} (h : Below Wr.heap.size Wr w) (hb : Wr.heap.size ≤ b) : Below Wr.heap.size Wr (set5 w b st ck tr vi v) := ext_set (ext_set (ext_set (ext_set (ext_set h hb _) hb _) hb _) hb _) hb _
section
variable {st ck tr : Int} {is : List Int} {ths : List (List (List St))} {Wr w : World} {l1 h1 l3 h3 l5 h5 b6 b7 b8 : Nat} {p1 c1 A1 d1 B1 p3 c3 A3 d3 B3 p5 c5 A5 d5 B5}
theorem AlC.s6 (h : AlC st ck tr is ths Wr l1 h1 l3 h3 l5 h5 b6 b7 b8 p1 c1 A1 d1 B1 p3 c3 A3 d3 B3 p5 c5 A5 d5 B5 9 w) : AlC st ck tr is ths Wr l1 h1 l3 h3 l5 h5 b6 b7 b8 p1 c1 A1 d1 B1 p3 c3 A3 d3 B3 p5 c5 A5 d5 B5 10 (set5 w b6 st ck tr (.slice p1 is.length c1) (.slice A1 ths.length d1)) :=
  ⟨set5_below h.bel h.D.g.2.2.2.1, h.D, h.x1.agree (set5_agree h.D.b61) (by rw [set5_size]; exact h.x1.hi.1), h.x3.agree (set5_agree h.D.b63) (by rw [set5_size]; exact h.x3.hi.1), h.x5.agree (set5_agree h.D.b65) (by rw [set5_size]; exact h.x5.hi.1),
    by simpa using set5_blk (by simpa using h.y6), by simpa using set5_other h.y7 h.D.n67, by simpa using set5_other h.y8 h.D.n68⟩
theorem AlC.s7 (h : AlC st ck tr is ths Wr l1 h1 l3 h3 l5 h5 b6 b7 b8 p1 c1 A1 d1 B1 p3 c3 A3 d3 B3 p5 c5 A5 d5 B5 10 w) : AlC st ck tr is ths Wr l1 h1 l3 h3 l5 h5 b6 b7 b8 p1 c1 A1 d1 B1 p3 c3 A3 d3 B3 p5 c5 A5 d5 B5 11 (set5 w b7 st ck tr (.slice p3 is.length c3) (.slice A3 ths.length d3)) :=
  ⟨set5_below h.bel h.D.g.2.2.2.2.1, h.D, h.x1.agree (set5_agree h.D.b71) (by rw [set5_size]; exact h.x1.hi.1), h.x3.agree (set5_agree h.D.b73) (by rw [set5_size]; exact h.x3.hi.1), h.x5.agree (set5_agree h.D.b75) (by rw [set5_size]; exact h.x5.hi.1),
    by simpa using set5_other h.y6 h.D.n67.symm, by simpa using set5_blk (by simpa using h.y7), by simpa using set5_other h.y8 h.D.n78⟩
theorem AlC.s8 (h : AlC st ck tr is ths Wr l1 h1 l3 h3 l5 h5 b6 b7 b8 p1 c1 A1 d1 B1 p3 c3 A3 d3 B3 p5 c5 A5 d5 B5 11 w) : AlC st ck tr is ths Wr l1 h1 l3 h3 l5 h5 b6 b7 b8 p1 c1 A1 d1 B1 p3 c3 A3 d3 B3 p5 c5 A5 d5 B5 12 (set5 w b8 st ck tr (.slice p5 is.length c5) (.slice A5 ths.length d5)) :=
  ⟨set5_below h.bel h.D.g.2.2.2.2.2, h.D, h.x1.agree (set5_agree h.D.b81) (by rw [set5_size]; exact h.x1.hi.1), h.x3.agree (set5_agree h.D.b83) (by rw [set5_size]; exact h.x3.hi.1), h.x5.agree (set5_agree h.D.b85) (by rw [set5_size]; exact h.x5.hi.1),
    by simpa using set5_other h.y6 h.D.n68.symm, by simpa using set5_other h.y7 h.D.n78.symm, by simpa using set5_blk (by simpa using h.y8)⟩
end
def AlS (st ck tr : Int) (is : List Int) (ths : List (List (List St))) (Wr : World) (n : Nat) (vs : Nat → Value) (w : World) : Prop :=
  ∃ l1 h1 l3 h3 l5 h5 b6 b7 b8 p1 c1 A1 d1 B1 p3 c3 A3 d3 B3 p5 c5 A5 d5 B5, AlC st ck tr is ths Wr l1 h1 l3 h3 l5 h5 b6 b7 b8 p1 c1 A1 d1 B1 p3 c3 A3 d3 B3 p5 c5 A5 d5 B5 n w ∧
    vs 1 = .agg #[.int .i64 st, .int .i64 ck, .int .i64 tr, .slice p1 is.length c1, .slice A1 ths.length d1] ∧ vs 3 = .agg #[.int .i64 st, .int .i64 ck, .int .i64 tr, .slice p3 is.length c3, .slice A3 ths.length d3] ∧
    vs 5 = .agg #[.int .i64 st, .int .i64 ck, .int .i64 tr, .slice p5 is.length c5, .slice A5 ths.length d5] ∧ vs 6 = .pointer (some ⟨b6, 0, none⟩) ∧ vs 7 = .pointer (some ⟨b7, 0, none⟩) ∧ vs 8 = .pointer (some ⟨b8, 0, none⟩)
theorem AlS.start {st ck tr : Int} {is : List Int} {ths : List (List (List St))} {AS : Value} {Wr w : World} {I : Nat → Nat × Nat} {vs : Nat → Value} (hG : Below Wr.heap.size Wr w) (h : AllI 9 (AlV st ck tr is ths AS Wr.heap.size) I (fun _ => true) vs w) : AlS st ck tr is ths Wr 9 vs w := by
  obtain ⟨⟨p1, c1, A1, d1, B1, e1, g1, k1⟩, -, -, a1⟩ := h 1 (by omega) rfl
  obtain ⟨⟨p3, c3, A3, d3, B3, e3, g3, k3⟩, -, -, a3⟩ := h 3 (by omega) rfl
  obtain ⟨⟨p5, c5, A5, d5, B5, e5, g5, k5⟩, -, -, a5⟩ := h 5 (by omega) rfl
  obtain ⟨⟨e6, g6, s6, k6⟩, -, -, a6⟩ := h 6 (by omega) rfl
  obtain ⟨⟨e7, g7, s7, k7⟩, -, -, a7⟩ := h 7 (by omega) rfl
  obtain ⟨⟨e8, g8, s8, k8⟩, -, -, a8⟩ := h 8 (by omega) rfl
  have q31 := a1 3 (by omega) rfl (by omega)
  have q51 := a1 5 (by omega) rfl (by omega)
  have q53 := a3 5 (by omega) rfl (by omega)
  have q16 := a6 1 (by omega) rfl (by omega)
  have q36 := a6 3 (by omega) rfl (by omega)
  have q56 := a6 5 (by omega) rfl (by omega)
  have q17 := a7 1 (by omega) rfl (by omega)
  have q37 := a7 3 (by omega) rfl (by omega)
  have q57 := a7 5 (by omega) rfl (by omega)
  have q18 := a8 1 (by omega) rfl (by omega)
  have q38 := a8 3 (by omega) rfl (by omega)
  have q58 := a8 5 (by omega) rfl (by omega)
  have q67 := a7 6 (by omega) rfl (by omega)
  have q68 := a8 6 (by omega) rfl (by omega)
  have q78 := a8 7 (by omega) rfl (by omega)
  unfold ApartI at *
  refine ⟨(I 1).1, (I 1).2, (I 3).1, (I 3).2, (I 5).1, (I 5).2, (I 6).1, (I 7).1, (I 8).1, p1, c1, A1, d1, B1, p3, c3, A3, d3, B3, p5, c5, A5, d5, B5, ⟨hG, ⟨⟨g1, g3, g5, g6, g7, g8⟩, by omega, by omega, by omega, ?_, ?_, ?_, ?_, ?_, ?_, ?_, ?_, ?_, by omega, by omega, by omega⟩, k1, k3, k5, k6, k7, k8⟩, e1, e3, e5, e6, e7, e8⟩
  all_goals (unfold OutI; omega)
end Go.Proofs.Ytoeegiaajngpeaa
