/-
  Walk: (pack.reader).block.
-/
import Derived.Test.YtaklfjjkeebheaaPkC
namespace Go.Proofs.Ytaklfjjkeebheaa
set_option linter.unusedVariables false
set_option linter.unusedSimpArgs false
set_option linter.unusedVariables false
open Go Go.RowKit Go.Lib
theorem rdTx_nil (w : World) : RdTx w [] (.slice none 0 0) := ⟨none, 0, rfl, by simp, fun h => absurd rfl h⟩
set_option maxRecDepth 100000 in
set_option maxHeartbeats 4000000 in
theorem block_none (rb : Nat) (s : ByteArray) (r : Rdr) (dn : Int) (w : World) (h : RdM w rb s r) (h0 : (numL r 0 40).1 = 0) :
    Calls Try.prog 32 #[.agg #[.pointer (some ⟨rb, 0, none⟩)], .int .i64 dn] w (ReadG (fun w'' v => RdTx w'' [] v) rb s (numL r 0 40).2 w) := by
  obtain ⟨W1, hW1⟩ : ∃ W1, W1 = w.alloc (.cells #[.pointer (some ⟨rb, 0, none⟩)] 43) := ⟨_, rfl⟩
  have hb1 : Below w.heap.size w W1 := by rw [hW1]; exact ext_alloc (ext_refl _) _
  have hbx : Blk W1 w.heap.size #[.pointer (some ⟨rb, 0, none⟩)] 43 := by rw [hW1]; exact Blk.new _ _ _
  have hm1 := h.below hb1
  have HAT := hid (rAt_any rb s r.at_ r.err W1 hm1.blk)
  have HN := hid (num_any rb s r 0 40 W1 hm1 (by omega) (by omega))
  have HB1 := hid hb1
  have HW1 := hid hW1
  have hx0 := hbx.cell 0 (v := .pointer (some ⟨rb, 0, none⟩)) rfl
  obtain ⟨q, hq⟩ : ∃ q, q = numL r 0 40 := ⟨_, rfl⟩
  rw [← hq] at HN h0 ⊢
  obtain ⟨q1, q2⟩ := q
  dsimp only at h0
  subst h0
  obtain ⟨Q, hQ⟩ : ∃ Q, Q = ReadG (fun w'' v => RdTx w'' [] v) rb s q2 w := ⟨_, rfl⟩
  dsimp only
  rw [← hQ]
  have HQ := hid hQ
  clear h hb1 hbx hm1 hW1 hq hQ
  go_enter Try.func32, Try.ntmps32
  go_wp2_with fail
  rw [← HW1.out]
  refine HAT.out.mono ?_
  rintro e' w2 ⟨rfl, rfl⟩
  go_wp2_with fail
  refine HN.out.mono ?_
  rintro e' w2 ⟨rfl, hr2, hT2⟩
  have HR2 := hid hr2
  have HT2 := hid hT2
  clear hr2 hT2
  go_wp2_with fail
  go_loopw [5, 27] (fun x i wr => x = .slice none 0 0 ∧ i = .int .i64 0 ∧ wr = w2) (fun _ _ _ => 0)
  case atStart => exact ⟨rfl, rfl, rfl⟩
  case round =>
    obtain ⟨rfl, rfl, rfl⟩ := hrel
    go_wp2_with fail
    rw [HQ.out]
    exact ⟨_, rfl, HR2.out, (Turn.of_below HB1.out).trans HT2.out, fun w'' _ => rdTx_nil w''⟩
set_option maxRecDepth 100000 in
set_option maxHeartbeats 4000000 in
theorem block_deep (rb : Nat) (s : ByteArray) (r : Rdr) (w : World) (h : RdM w rb s r) (h0 : 0 < (numL r 0 40).1) :
    Calls Try.prog 32 #[.agg #[.pointer (some ⟨rb, 0, none⟩)], .int .i64 7] w (ReadG (fun w'' v => RdTx w'' [] v) rb s (failC (numL r 0 40).2 r.at_ 40) w) := by
  obtain ⟨W1, hW1⟩ : ∃ W1, W1 = w.alloc (.cells #[.pointer (some ⟨rb, 0, none⟩)] 43) := ⟨_, rfl⟩
  have hb1 : Below w.heap.size w W1 := by rw [hW1]; exact ext_alloc (ext_refl _) _
  have hbx : Blk W1 w.heap.size #[.pointer (some ⟨rb, 0, none⟩)] 43 := by rw [hW1]; exact Blk.new _ _ _
  have hm1 := h.below hb1
  have hlt := h.lt
  have HAT := hid (rAt_any rb s r.at_ r.err W1 hm1.blk)
  have HN := hid (num_any rb s r 0 40 W1 hm1 (by omega) (by omega))
  have hk := numL_kept h.rdb 0 40
  have HH2 := hid (fun (w' : World) (hb : RdrAt w' rb s (numL r 0 40).2.at_ (numL r 0 40).2.err) => hm1.kept hk hb)
  have hmono : (numL r 0 40).2.err = 0 → r.at_ ≤ (numL r 0 40).2.at_ := by
    intro he
    have := (numL_went h.rdb he).1.tk
    have h2 := congrArg List.length this
    have hs := h.rdb.2
    have h3 := hk.at_
    rw [List.length_take, List.length_append, List.length_take] at h2
    omega
  have HM := hid hmono
  obtain ⟨ra, hra⟩ : ∃ ra, ra = r.at_ := ⟨_, rfl⟩
  rw [← hra] at HAT HM ⊢
  have HB1 := hid hb1
  have HX := hid hbx
  have HLT := hid hlt
  have HW1 := hid hW1
  have hx0 := hbx.cell 0 (v := .pointer (some ⟨rb, 0, none⟩)) rfl
  generalize numL r 0 40 = q at *
  have j1 : decide ((0 : Int) < (q.1 : Int)) = true := decide_eq_true (by omega)
  have j2 : decide (0 < q.1) = true := decide_eq_true h0
  obtain ⟨Q, hQ⟩ : ∃ Q, Q = ReadG (fun w'' v => RdTx w'' [] v) rb s (failC q.2 ra 40) w := ⟨_, rfl⟩
  rw [← hQ]
  have HQ := hid hQ
  clear h hb1 hbx hm1 hlt hk hmono hQ hra hW1 h0
  go_enter Try.func32, Try.ntmps32
  go_wp2_with fail
  rw [← HW1.out]
  refine HAT.out.mono ?_
  rintro e' w2 ⟨rfl, rfl⟩
  go_wp2_with fail
  refine HN.out.mono ?_
  rintro e' w2 ⟨rfl, hr2, hT2⟩
  have hx2 := (hT2.blk (by simp; have := HLT.out; omega) HX.out).cell 0 (v := .pointer (some ⟨rb, 0, none⟩)) rfl
  have HR2 := hid hr2
  have HT2 := hid hT2
  clear hr2 hT2 hx0
  go_wp2_with fail
  refine (show Calls Try.prog 49 #[.pointer (some ⟨rb, 0, none⟩), .int .i64 (ra : Int), .int .i64 40] w2 (fun e' w' => (∃ v, e' = .returned v) ∧ RdrAt w' rb s (failC q.2 ra 40).at_ (failC q.2 ra 40).err ∧ Turn [rb] w2 w') from ?_).mono ?_
  · have he3 := (HH2.out _ HR2.out).eta
    rw [he3]
    exact rfailC_any rb s q.2.at_ q.2.err ra 40 w2 HR2.out HM.out (by omega)
  · rintro e' w3 ⟨⟨v, rfl⟩, hr3, hT3⟩
    go_wp2_with fail
    rw [HQ.out]
    exact ⟨_, rfl, hr3, ((Turn.of_below HB1.out).trans HT2.out).trans hT3, fun w'' _ => rdTx_nil w''⟩
theorem infoStmt : (Try.prog.info? 91).map (fun i => (i.zero, i.size, i.bytes)) = some (some (.agg #[.int .u8 0, .int .i64 0, .int .u8 0, .int .i64 0, .slice none 0 0, .int .u8 0, .int .i64 0, .slice none 0 0, .slice none 0 0, .slice none 0 0]), 10, 144) := by kernel_rfl
/-- What a round of block keeps. -/
structure BkI (w : World) (rb : Nat) (s : ByteArray) (B : Rdr → List St × Rdr) (tot : List St × Rdr) (n k : Nat) (x : Value) (wr : World) : Prop where
  ex : ∃ out news r', out.length = k ∧ stmtsL B (n - k) out r' = tot ∧ RowG RSt 10 91 wr (w.heap.size + 1) out k x news ∧ RdM wr rb s r'
  bx : Blk wr w.heap.size #[.pointer (some ⟨rb, 0, none⟩)] 43
  turn : Turn [rb] w wr
/-- What a letter's round keeps. -/
structure InI (w wr : World) (rb : Nat) (s : ByteArray) (B : Rdr → List St × Rdr) (p : St × Rdr) (X D : Nat) (ls : List Nat) (S : ByteArray) (j : Nat) (W : World) : Prop where
  ex : ∃ st r3, partsL B (ls.drop j) st r3 = p ∧ StI W X (D + 1) st ∧ RdM W rb s r3 ∧ (0 ≤ st.kind ∧ st.kind ≤ 255) ∧ (-9223372036854775808 ≤ st.to ∧ st.to ≤ 9223372036854775807)
  it : W.heap[D]? = some (.stringIter S j)
  bx : Blk W w.heap.size #[.pointer (some ⟨rb, 0, none⟩)] 43
  turn : Turn [rb] wr W
theorem letters_mem (k : Nat) : ∀ c ∈ lettersOf k, c = 116 ∨ c = 97 ∨ c = 98 ∨ c = 111 ∨ c = 101 := by
  unfold lettersOf
  repeat' split
  all_goals simp
theorem blk_iterAt {W : World} {k D : Nat} {S : ByteArray} {j : Nat} {cs : Array Value} {t : TypeId} (h : Blk W k cs t) (hn : k ≠ D) : Blk (W.iterAt D S j) k cs t := (iterAt_other W D k S j hn).trans h
/-- The iterator has gone on. -/
theorem InI.next {w wr W : World} {rb : Nat} {s : ByteArray} {B : Rdr → List St × Rdr} {p : St × Rdr} {X D : Nat} {ls : List Nat} {S : ByteArray} {j : Nat} (h : InI w wr rb s B p X D ls S j W) (hj : j < ls.length) (hlt : rb < w.heap.size ∧ w.heap.size < wr.heap.size ∧ wr.heap.size ≤ X ∧ X < D) :
    ∃ st r3, partsL B (ls.drop (j + 1)) (partL B st ls[j] r3).1 (partL B st ls[j] r3).2 = p ∧ StI (W.iterAt D S (j + 1)) X (D + 1) st ∧ RdM (W.iterAt D S (j + 1)) rb s r3 ∧ (0 ≤ st.kind ∧ st.kind ≤ 255) ∧ (-9223372036854775808 ≤ st.to ∧ st.to ≤ 9223372036854775807) ∧
      (W.iterAt D S (j + 1)).heap[D]? = some (.stringIter S (j + 1)) ∧ Blk (W.iterAt D S (j + 1)) w.heap.size #[.pointer (some ⟨rb, 0, none⟩)] 43 ∧ Turn [rb] wr (W.iterAt D S (j + 1)) := by
  obtain ⟨⟨st, r3, h1, h2, h3, h4, h5⟩, hit, hbx, hT⟩ := h
  rw [List.drop_eq_getElem_cons hj] at h1
  have hsz := iterAt_size W D S (j + 1)
  refine ⟨st, r3, h1, h2.turn (iterAt_other W D X S (j + 1) (by omega)) (fun b hb _ => iterAt_other W D b S (j + 1) (by omega)) (by rw [hsz]; exact Nat.le_refl _), ⟨blk_iterAt h3.blk (by omega), h3.s_, h3.at_, h3.sz⟩, h4, h5, iterAt_heap W D S j (j + 1) hit, blk_iterAt hbx (by omega), ?_⟩
  exact ⟨hT.os, hT.tape, hT.output, by rw [hsz]; exact hT.size, fun k hk hn => (iterAt_other W D k S (j + 1) (by omega)).trans (hT.block k hk hn)⟩
/-- Within a letter's round. -/
structure MidI (w wr : World) (rb : Nat) (s : ByteArray) (X D : Nat) (S : ByteArray) (j : Nat) (r4 : Rdr) (W : World) : Prop where
  rd : RdM W rb s r4
  it : W.heap[D]? = some (.stringIter S j)
  bx : Blk W w.heap.size #[.pointer (some ⟨rb, 0, none⟩)] 43
  turn : Turn [rb] wr W
section
variable {w wr W W' : World} {rb X D j : Nat} {s S : ByteArray} {r4 r5 : Rdr}
theorem MidI.set (h : MidI w wr rb s X D S j r4 W) (hp : rb < w.heap.size ∧ w.heap.size < wr.heap.size ∧ wr.heap.size ≤ X ∧ X < D) (o : Nat) (v : Value) : MidI w wr rb s X D S j r4 (W.setCell ⟨X, o, none⟩ v) where
  rd := ⟨Blk.set_other h.rd.blk ⟨X, o, none⟩ v (by dsimp only; omega), h.rd.s_, h.rd.at_, h.rd.sz⟩
  it := (Below.heap_setCell W ⟨X, o, none⟩ v D (by dsimp only; omega)).trans h.it
  bx := h.bx.set_other ⟨X, o, none⟩ v (by dsimp only; omega)
  turn := h.turn.setCell (Or.inr (by dsimp only; omega)) v
theorem MidI.call (h : MidI w wr rb s X D S j r4 W) (hp : rb < w.heap.size ∧ w.heap.size < wr.heap.size ∧ wr.heap.size ≤ X ∧ X < D) (hk : Kept r4 r5) (hT : Turn [rb] W W') (hr : RdrAt W' rb s r5.at_ r5.err) : MidI w wr rb s X D S j r5 W' where
  rd := h.rd.kept hk hr
  it := by
    have hD : D < W.heap.size := (Array.getElem?_eq_some_iff.1 h.it).1
    exact (hT.block D hD (by simp; omega)).trans h.it
  bx := hT.blk (by simp; omega) h.bx
  turn := h.turn.trans hT
theorem MidI.pos (h : MidI w wr rb s X D S j r4 W) : W.iterPos D = j := by simp [World.iterPos, h.it]
end
theorem StI.lt {W : World} {X lo : Nat} {st : St} (h : StI W X lo st) : X < W.heap.size := by
  obtain ⟨a2, b2, bo, el, h1, -⟩ := h
  exact h1.lt
theorem StI.called {W W' : World} {X D rb : Nat} {st : St} (h : StI W X (D + 1) st) (hT : Turn [rb] W W') (h1 : rb < X) (h2 : X < D) : StI W' X (D + 1) st :=
  h.turn (hT.block X h.lt (by simp; omega)) (Agree.of_turn hT (by simp; omega)) hT.size
section
variable (B : Rdr → List St × Rdr) (s : St) (r : Rdr)
theorem partL_t : partL B s 116 r = (.mk s.kind ((numL r 0 7).1 : Nat) s.a s.b s.body s.els, (numL r 0 7).2) := by simp [partL]
theorem partL_a : partL B s 97 r = (.mk s.kind s.to (exprL 6 r).1 s.b s.body s.els, (exprL 6 r).2) := by simp [partL]
theorem partL_b : partL B s 98 r = (.mk s.kind s.to s.a (exprL 6 r).1 s.body s.els, (exprL 6 r).2) := by simp [partL]
theorem partL_o : partL B s 111 r = (.mk s.kind s.to s.a s.b (B r).1 s.els, (B r).2) := by simp [partL]
theorem partL_e : partL B s 101 r = (.mk s.kind s.to s.a s.b s.body (B r).1, (B r).2) := by simp [partL]
end
set_option maxHeartbeats 4000000 in
set_option maxRecDepth 100000 in
set_option maxHeartbeats 4000000 in
theorem block_go (rb : Nat) (s : ByteArray) (r : Rdr) (dn : Int) (B : Rdr → List St × Rdr) (w : World) (h : RdM w rb s r) (h0 : 0 < (numL r 0 40).1) (hd : 0 ≤ dn ∧ dn ≤ 6) (hB : BOk B)
    (ih : ∀ (r : Rdr) (w : World), RdM w rb s r → Calls Try.prog 32 #[.agg #[.pointer (some ⟨rb, 0, none⟩)], .int .i64 (dn + 1)] w (ReadG (fun w'' v => RdTx w'' (B r).1 v) rb s (B r).2 w)) :
    Calls Try.prog 32 #[.agg #[.pointer (some ⟨rb, 0, none⟩)], .int .i64 dn] w (ReadG (fun w'' v => RdTx w'' (stmtsL B (numL r 0 40).1 [] (numL r 0 40).2).1 v) rb s (stmtsL B (numL r 0 40).1 [] (numL r 0 40).2).2 w) := by
  obtain ⟨W1, hW1⟩ : ∃ W1, W1 = w.alloc (.cells #[.pointer (some ⟨rb, 0, none⟩)] 43) := ⟨_, rfl⟩
  have hb1 : Below w.heap.size w W1 := by rw [hW1]; exact ext_alloc (ext_refl _) _
  have hbx : Blk W1 w.heap.size #[.pointer (some ⟨rb, 0, none⟩)] 43 := by rw [hW1]; exact Blk.new _ _ _
  have hsz1 : W1.heap.size = w.heap.size + 1 := by rw [hW1]; simp
  have hm1 := h.below hb1
  have hlt := h.lt
  have HAT := hid (rAt_any rb s r.at_ r.err W1 hm1.blk)
  have HN := hid (num_any rb s r 0 40 W1 hm1 (by omega) (by omega))
  have hk := numL_kept h.rdb 0 40
  have hle := numL_le r 0 40
  have HH2 := hid (fun (w' : World) (hb : RdrAt w' rb s (numL r 0 40).2.at_ (numL r 0 40).2.err) => hm1.kept hk hb)
  obtain ⟨ra, hra⟩ : ∃ ra, ra = r.at_ := ⟨_, rfl⟩
  rw [← hra] at HAT
  have HB1 := hid hb1
  have HX := hid hbx
  have HLT := hid hlt
  have HW1 := hid hW1
  have HSZ1 := hid hsz1
  have IH := hid ih
  have HBOK := hid hB
  have HDN := hid hd
  have hx0 := hbx.cell 0 (v := .pointer (some ⟨rb, 0, none⟩)) rfl
  generalize numL r 0 40 = q at *
  obtain ⟨n, r1⟩ := q
  dsimp only at *
  have HLE := hid hle
  have j1 : decide ((0 : Int) < (n : Int)) = true := decide_eq_true (by omega)
  have j2 : decide (0 < n) = true := decide_eq_true h0
  have j3 : decide ((6 : Int) < dn) = false := decide_eq_false (by omega)
  have j4 : IntKind.i64.wrap (dn + 1) = dn + 1 := IntWalk.i64_in _ (by omega)
  obtain ⟨tot, htot⟩ : ∃ tot, tot = stmtsL B n [] r1 := ⟨_, rfl⟩
  rw [← htot]
  have HTOT := hid htot
  obtain ⟨i0, hi0, hz0, hz1, hz2⟩ := info_parts infoStmt
  have HI0 := hid hi0
  have HZ0 := hid hz0
  have HZ1 := hid hz1
  have HZ2 := hid hz2
  clear h hb1 hbx hm1 hlt hk hle hra hW1 h0 hd hB ih htot hi0 hz0 hz1 hz2 hsz1
  go_enter Try.func32, Try.ntmps32
  go_wp2_with fail
  rw [← HW1.out]
  refine HAT.out.mono ?_
  rintro e' w2 ⟨rfl, rfl⟩
  go_wp2_with fail
  refine HN.out.mono ?_
  rintro e' w2 ⟨rfl, hr2, hT2⟩
  have HT2 := hid hT2
  have HR2 := hid (HH2.out w2 hr2)
  clear hr2 hT2 hx0
  go_wp2_with fail
  go_loopw [5, 27] (fun x i wr => ∃ (k : Nat) (x' : Value) (W' : World), x' = x ∧ W' = wr ∧ k ≤ n ∧ i = .int .i64 k ∧ BkI w rb s B tot n k x' W') (fun _ i _ => n - (intOf i).toNat)
  case atStart =>
    refine ⟨0, _, _, rfl, rfl, Nat.zero_le _, rfl, ⟨[], [], r1, rfl, HTOT.out.symm, rowG_nil ?_, HR2.out⟩, HT2.out.blk (by simp; have := HLT.out; omega) HX.out, (Turn.of_below HB1.out).trans HT2.out⟩
    have := HT2.out.size; have := HSZ1.out; omega
  case round =>
    obtain ⟨k, x, wr, hx, hwr, hk, rfl, hI⟩ := hrel
    subst hx
    subst hwr
    by_cases hlt : k < n
    · have g1 : decide ((k : Int) < (n : Int)) = true := by rw [decide_eq_true_iff]; omega
      have g2 : decide (k < n) = true := decide_eq_true hlt
      have g3 : IntKind.i64.wrap ((k : Int) + 1) = (k : Int) + 1 := IntWalk.i64_in _ (by have := HLE.out; omega)
      obtain ⟨⟨out, news, r', hlen, hst, hrow, hrd⟩, hbx, hT⟩ := hI
      have hnn : n - k = (n - (k + 1)) + 1 := by omega
      rw [hnn, stmtsL] at hst
      have HN2 := hid (num_any rb s r' 1 8 wr hrd (by omega) (by omega))
      have hkq := numL_kept hrd.rdb 1 8
      have hlq := numL_le r' 1 8
      have hwq := fun he => (numL_went (least := 1) (most := 8) hrd.rdb he).2
      have HKQ := hid (fun (w' : World) hb => hrd.kept (w' := w') hkq hb)
      generalize numL r' 1 8 = q at *
      obtain ⟨kd, r2⟩ := q
      dsimp only at *
      have x0 := hbx.cell 0 (v := .pointer (some ⟨rb, 0, none⟩)) rfl
      have hop := op_u8 kd hlq
      have hbl := hbx.lt
      have HLTN := hid hlt
      have HLEN := hid hlen
      have HST := hid hst
      have HROW := hid hrow
      have HRD := hid hrd
      have HBX := hid hbx
      have HT := hid hT
      have HBL := hid hbl
      have HWQ := hid hwq
      have HLQ := hid hlq
      clear hlt hk hlen hst hrow hrd hbx hT hbl hkq hlq hwq hnn
      go_wp2_with fail
      refine HN2.out.mono ?_
      rintro e' w3 ⟨rfl, hr3, hT3⟩
      dsimp only at hr3
      have hm3 := HKQ.out w3 hr3
      have hbx3 := hT3.blk (by simp; have := HLT.out; omega) HBX.out
      have hb4 := ext_alloc (ext_refl w3) (.cells #[.int .u8 (kd : Int), .int .i64 0, .int .u8 0, .int .i64 0, .slice none 0 0, .int .u8 0, .int .i64 0, .slice none 0 0, .slice none 0 0, .slice none 0 0] 91)
      have hX4 : Blk (w3.alloc (.cells #[.int .u8 (kd : Int), .int .i64 0, .int .u8 0, .int .i64 0, .slice none 0 0, .int .u8 0, .int .i64 0, .slice none 0 0, .slice none 0 0, .slice none 0 0] 91)) w3.heap.size #[.int .u8 (kd : Int), .int .i64 0, .int .u8 0, .int .i64 0, .slice none 0 0, .int .u8 0, .int .i64 0, .slice none 0 0, .slice none 0 0, .slice none 0 0] 91 := Blk.new _ _ _
      have x4 := (hbx3.below hb4).cell 0 (v := .pointer (some ⟨rb, 0, none⟩)) rfl
      have HB4 := hid hb4
      have HX4 := hid hX4
      have HM4 := hid (hm3.below hb4)
      have HT3 := hid hT3
      have HBX4 := hid (hbx3.below hb4)
      clear hr3 hm3 hbx3 hb4 hX4 hT3 x0
      by_cases he : r2.err = 0
      · have HBAD := hid (bad_any rb s r2 _ HM4.out false (by simpa using he))
        have hkd := HWQ.out he
        have HPT := hid (fun (W : World) => parts_any kd W ⟨hkd, HLQ.out⟩)
        have HST2 : Hid (stmtsL B (n - (k + 1)) (out ++ [(partsL B (lettersOf kd) (stNew kd) r2).1]) (partsL B (lettersOf kd) (stNew kd) r2).2 = tot) := hid (by have := HST.out; rwa [if_neg (by omega)] at this)
        have HHE := hid he
        have HHK := hid hkd
        clear he hkd
        go_wp2_with fail
        refine HBAD.out.mono ?_
        rintro e' w5 ⟨rfl, hb5⟩
        have hx5 := HX4.out.below hb5
        have X0 := hx5.cell 0 (v := .int .u8 (kd : Int)) rfl
        have HX5 := hid hx5
        have HM5 := hid (HM4.out.below hb5)
        have HBX5 := hid (HBX4.out.below hb5)
        have HB5 := hid hb5
        clear hx5 hb5 x4
        go_wp2_with fail
        refine (HPT.out _).mono ?_
        rintro e' w6 ⟨⟨S, rfl, hS⟩, hb6⟩
        go_wp2_with fail
        have hSz : S.size = (lettersOf kd).length := by rw [← byt_len, hS]
        have hX6 := HX5.out.below hb6
        have hI7 : InI w wr rb s B (partsL B (lettersOf kd) (stNew kd) r2) w3.heap.size w6.heap.size (lettersOf kd) S 0 (w6.iter S 0) := by
          have hb7 : Below w6.heap.size w6 (w6.iter S 0) := ext_alloc (ext_refl _) _
          refine ⟨⟨stNew kd, r2, by simp, ⟨.slice none 0 0, .slice none 0 0, .slice none 0 0, .slice none 0 0, hX6.below hb7, fun w'' _ => ⟨RdExV.leaf w'' (by omega) (by omega), RdExV.leaf w'' (by omega) (by omega), rdTx_nil w'', rdTx_nil w''⟩⟩, (HM5.out.below hb6).below hb7, (by show 0 ≤ (kd : Int) ∧ (kd : Int) ≤ 255; have := HLQ.out; omega), (by show -9223372036854775808 ≤ (0 : Int) ∧ (0 : Int) ≤ 9223372036854775807; omega)⟩, World.iter_heap _ _ _, (HBX5.out.below hb6).below hb7, ?_⟩
          exact (((HT3.out.trans (Turn.of_below HB4.out)).trans (Turn.of_below HB5.out)).trans (Turn.of_below hb6)).trans (Turn.of_below hb7)
        have HI7 := hid hI7
        have hpos : rb < w.heap.size ∧ w.heap.size < wr.heap.size ∧ wr.heap.size ≤ w3.heap.size ∧ w3.heap.size < w6.heap.size := ⟨HLT.out, HBL.out, HT3.out.size, hX6.lt⟩
        have HPOS := hid hpos
        obtain ⟨X, hX⟩ : ∃ X, X = w3.heap.size := ⟨_, rfl⟩
        obtain ⟨D, hD⟩ : ∃ D, D = w6.heap.size := ⟨_, rfl⟩
        have HSZ := hid hSz
        have HSS := hid hS
        rw [← hX] at HI7 HPOS ⊢
        rw [← hD] at HI7 HPOS ⊢
        clear hX6 hI7 hpos hX hD hb6 X0 HX5 HM5 HBX5 HB5 HBAD HPT HX4 HM4 HBX4 HB4 HT3 HN2 HKQ HWQ hSz hS
        obtain ⟨p, hp⟩ : ∃ p, p = partsL B (lettersOf kd) (stNew kd) r2 := ⟨_, rfl⟩
        rw [← hp] at HI7 HST2
        obtain ⟨ls, hls⟩ : ∃ ls, ls = lettersOf kd := ⟨_, rfl⟩
        have HLM : Hid (∀ c ∈ ls, c = 116 ∨ c = 97 ∨ c = 98 ∨ c = 111 ∨ c = 101) := hid (by rw [hls]; exact letters_mem kd)
        rw [← hls] at HI7 HSZ HSS
        clear hp hls
        go_loopw [10] (fun _ W => ∃ (W' : World) (j : Nat), W' = W ∧ j ≤ ls.length ∧ InI w wr rb s B p X D ls S j W') (fun _ W => ls.length - W.iterPos D)
        case atStart => exact ⟨_, 0, rfl, Nat.zero_le _, HI7.out⟩
        case round =>
          clear HI7
          obtain ⟨W, j, hWW, hj, hI⟩ := hrel
          subst hWW
          by_cases hlj : j < ls.length
          · have hjs : j < S.size := by rw [HSZ.out]; exact hlj
            have hc : (S[j]'hjs).toNat = ls[j] := by
              have h1 : (byt S)[j]'(by rw [byt_len]; exact hjs) = ls[j] := by simp only [HSS.out]
              rw [← h1]; simp [byt]; rfl
            have hcm := HLM.out ls[j] (List.getElem_mem hlj)
            have hnx : ∀ ty, (Instr.next (.pointer (some ⟨D, 0, none⟩)) true ty).run Try.prog W = .ok (.tuple #[.bool true, .int .i64 j, .int .i32 (ls[j] : Nat)]) (W.iterAt D S (j + 1)) := fun ty => by
              rw [run_next_ascii_at W D S j ty hI.it hjs (by rw [hc]; omega), hc]
            obtain ⟨st, r3, e1, e2, e3, e4, e5, e6, e7, e8⟩ := hI.next hlj HPOS.out
            have hip : W.iterPos D = j := by simp [World.iterPos, hI.it]
            generalize ls[j] = c at *
            obtain ⟨W5, hW5⟩ : ∃ W5, W5 = W.iterAt D S (j + 1) := ⟨_, rfl⟩
            rw [← hW5] at hnx e2 e3 e6 e7 e8
            have x5 := e7.cell 0 (v := .pointer (some ⟨rb, 0, none⟩)) rfl
            have HLJ := hid hlj
            have HIP := hid hip
            have E1 := hid e1
            have E2 := hid e2
            have E3 := hid e3
            have E4 := hid e4
            have E5 := hid e5
            have E6 := hid e6
            have E7 := hid e7
            have E8 := hid e8
            clear hI hj hlj hjs hc hip hW5 e1 e2 e3 e4 e5 e6 e7 e8
            rcases hcm with rfl | rfl | rfl | rfl | rfl
            · have HC := hid (num_any rb s r3 0 7 W5 E3.out (by omega) (by omega))
              have hkk := numL_kept E3.out.rdb 0 7
              have hle7 := numL_le r3 0 7
              have e1 := E1.out
              rw [partL_t] at e1
              generalize numL r3 0 7 = q at *
              have E1' := hid e1
              have HKK := hid hkk
              have HL7 := hid hle7
              clear e1 hkk hle7
              go_wp2_with fail
              refine HC.out.mono ?_
              rintro e' w7 ⟨rfl, hr7, hT7⟩
              have hM7 := (MidI.mk E3.out E6.out E7.out E8.out).call HPOS.out HKK.out hT7 hr7
              have hS7 := E2.out.called hT7 (by have := HPOS.out; omega) HPOS.out.2.2.2
              have HS7 := hid hS7
              have HM7 := hid hM7
              obtain ⟨a2, b2, bo, el, hX7, -⟩ := hS7
              have y1 := hX7.cell 1 (v := .int .i64 st.to) rfl
              have f1 := hX7.free 1
              have HT7 := hid hT7
              clear hT7 hr7 hM7 hX7 x5
              go_wp2_with fail
              go_roundw
              case rel =>
                have hm := HM7.out.set HPOS.out 1 (.int .i64 ((q.1 : Nat) : Int))
                exact ⟨_, j + 1, rfl, HLJ.out, ⟨⟨_, _, E1'.out, HS7.out.setTo (by have := HPOS.out; omega) _, hm.rd, E4.out, (by show -9223372036854775808 ≤ ((q.1 : Nat) : Int) ∧ ((q.1 : Nat) : Int) ≤ 9223372036854775807; have := HL7.out; omega)⟩, hm.it, hm.bx, hm.turn⟩⟩
              case measure =>
                have hm := HM7.out.set HPOS.out 1 (.int .i64 ((q.1 : Nat) : Int))
                have := HLJ.out
                rw [hm.pos, HIP.out]; omega
            · have HC := hid (show Calls Try.prog 51 #[.agg #[.pointer (some ⟨rb, 0, none⟩)], .int .i64 1] W5 (ReadG (RdExV (exprL 6 r3).1) rb s (exprL 6 r3).2 W5) from expr_any 6 rb s r3 W5 E3.out (by omega))
              have hkk := exprL_kept 6 E3.out.rdb
              have e1 := E1.out
              rw [partL_a] at e1
              generalize exprL 6 r3 = q at *
              have E1' := hid e1
              have HKK := hid hkk
              clear e1 hkk
              go_wp2_with fail
              refine HC.out.mono ?_
              rintro e' w7 ⟨v, rfl, hr7, hT7, hv⟩
              obtain ⟨p7, c7, rfl, -⟩ := hv w7 (Agree.refl _ _ _)
              have hM7 := (MidI.mk E3.out E6.out E7.out E8.out).call HPOS.out HKK.out hT7 hr7
              have hS7 := E2.out.called hT7 (by have := HPOS.out; omega) HPOS.out.2.2.2
              have HS7 := hid hS7
              have HM7 := hid hM7
              obtain ⟨a2, b2, bo, el, hX7, -⟩ := hS7
              have y2 := hX7.cell 2 (v := .int .u8 st.a.op) rfl
              have f2 := hX7.free 2
              have y3 := hX7.cell 3 (v := .int .i64 st.a.n) rfl
              have f3 := hX7.free 3
              have y4 := hX7.cell 4 (v := a2) rfl
              have f4 := hX7.free 4
              have HLO := hid (show D + 1 ≤ W5.heap.size from (Array.getElem?_eq_some_iff.1 E6.out).1)
              have HV := hid hv
              have HT7 := hid hT7
              clear hv
              clear hT7 hr7 hM7 hX7 x5
              go_wp2_with fail
              go_roundw
              case rel =>
                have hm := ((HM7.out.set HPOS.out 2 (.int .u8 q.1.op)).set HPOS.out 3 (.int .i64 q.1.n)).set HPOS.out 4 (.slice p7 q.1.args.length c7)
                exact ⟨_, j + 1, rfl, HLJ.out, ⟨⟨_, _, E1'.out, HS7.out.setA (by have := HPOS.out; omega) q.1 _ (fun w'' hw => HV.out w'' (hw.sub HLO.out (Nat.le_refl _))), hm.rd, E4.out, E5.out⟩, hm.it, hm.bx, hm.turn⟩⟩
              case measure =>
                have hm := ((HM7.out.set HPOS.out 2 (.int .u8 q.1.op)).set HPOS.out 3 (.int .i64 q.1.n)).set HPOS.out 4 (.slice p7 q.1.args.length c7)
                have := HLJ.out
                rw [hm.pos, HIP.out]; omega
            · have HC := hid (show Calls Try.prog 51 #[.agg #[.pointer (some ⟨rb, 0, none⟩)], .int .i64 1] W5 (ReadG (RdExV (exprL 6 r3).1) rb s (exprL 6 r3).2 W5) from expr_any 6 rb s r3 W5 E3.out (by omega))
              have hkk := exprL_kept 6 E3.out.rdb
              have e1 := E1.out
              rw [partL_b] at e1
              generalize exprL 6 r3 = q at *
              have E1' := hid e1
              have HKK := hid hkk
              clear e1 hkk
              go_wp2_with fail
              refine HC.out.mono ?_
              rintro e' w7 ⟨v, rfl, hr7, hT7, hv⟩
              obtain ⟨p7, c7, rfl, -⟩ := hv w7 (Agree.refl _ _ _)
              have hM7 := (MidI.mk E3.out E6.out E7.out E8.out).call HPOS.out HKK.out hT7 hr7
              have hS7 := E2.out.called hT7 (by have := HPOS.out; omega) HPOS.out.2.2.2
              have HS7 := hid hS7
              have HM7 := hid hM7
              obtain ⟨a2, b2, bo, el, hX7, -⟩ := hS7
              have y5 := hX7.cell 5 (v := .int .u8 st.b.op) rfl
              have f5 := hX7.free 5
              have y6 := hX7.cell 6 (v := .int .i64 st.b.n) rfl
              have f6 := hX7.free 6
              have y7 := hX7.cell 7 (v := b2) rfl
              have f7 := hX7.free 7
              have HLO := hid (show D + 1 ≤ W5.heap.size from (Array.getElem?_eq_some_iff.1 E6.out).1)
              have HV := hid hv
              have HT7 := hid hT7
              clear hv
              clear hT7 hr7 hM7 hX7 x5
              go_wp2_with fail
              go_roundw
              case rel =>
                have hm := ((HM7.out.set HPOS.out 5 (.int .u8 q.1.op)).set HPOS.out 6 (.int .i64 q.1.n)).set HPOS.out 7 (.slice p7 q.1.args.length c7)
                exact ⟨_, j + 1, rfl, HLJ.out, ⟨⟨_, _, E1'.out, HS7.out.setB (by have := HPOS.out; omega) q.1 _ (fun w'' hw => HV.out w'' (hw.sub HLO.out (Nat.le_refl _))), hm.rd, E4.out, E5.out⟩, hm.it, hm.bx, hm.turn⟩⟩
              case measure =>
                have hm := ((HM7.out.set HPOS.out 5 (.int .u8 q.1.op)).set HPOS.out 6 (.int .i64 q.1.n)).set HPOS.out 7 (.slice p7 q.1.args.length c7)
                have := HLJ.out
                rw [hm.pos, HIP.out]; omega
            · have HC := hid (IH.out r3 W5 E3.out)
              have hkk := HBOK.out.kept r3 E3.out.rdb
              have e1 := E1.out
              rw [partL_o] at e1
              generalize B r3 = q at *
              have E1' := hid e1
              have HKK := hid hkk
              clear e1 hkk
              go_wp2_with fail
              refine HC.out.mono ?_
              rintro e' w7 ⟨v, rfl, hr7, hT7, hv⟩
              obtain ⟨p7, c7, rfl, -⟩ := hv w7 (Agree.refl _ _ _)
              have hM7 := (MidI.mk E3.out E6.out E7.out E8.out).call HPOS.out HKK.out hT7 hr7
              have hS7 := E2.out.called hT7 (by have := HPOS.out; omega) HPOS.out.2.2.2
              have HS7 := hid hS7
              have HM7 := hid hM7
              obtain ⟨a2, b2, bo, el, hX7, -⟩ := hS7
              have y8 := hX7.cell 8 (v := bo) rfl
              have f8 := hX7.free 8
              have HLO := hid (show D + 1 ≤ W5.heap.size from (Array.getElem?_eq_some_iff.1 E6.out).1)
              have HV := hid hv
              have HT7 := hid hT7
              clear hv
              clear hT7 hr7 hM7 hX7 x5
              go_wp2_with fail
              go_roundw
              case rel =>
                have hm := HM7.out.set HPOS.out 8 (.slice p7 q.1.length c7)
                exact ⟨_, j + 1, rfl, HLJ.out, ⟨⟨_, _, E1'.out, HS7.out.setO (by have := HPOS.out; omega) q.1 _ (fun w'' hw => HV.out w'' (hw.sub HLO.out (Nat.le_refl _))), hm.rd, E4.out, E5.out⟩, hm.it, hm.bx, hm.turn⟩⟩
              case measure =>
                have hm := HM7.out.set HPOS.out 8 (.slice p7 q.1.length c7)
                have := HLJ.out
                rw [hm.pos, HIP.out]; omega
            · have HC := hid (IH.out r3 W5 E3.out)
              have hkk := HBOK.out.kept r3 E3.out.rdb
              have e1 := E1.out
              rw [partL_e] at e1
              generalize B r3 = q at *
              have E1' := hid e1
              have HKK := hid hkk
              clear e1 hkk
              go_wp2_with fail
              refine HC.out.mono ?_
              rintro e' w7 ⟨v, rfl, hr7, hT7, hv⟩
              obtain ⟨p7, c7, rfl, -⟩ := hv w7 (Agree.refl _ _ _)
              have hM7 := (MidI.mk E3.out E6.out E7.out E8.out).call HPOS.out HKK.out hT7 hr7
              have hS7 := E2.out.called hT7 (by have := HPOS.out; omega) HPOS.out.2.2.2
              have HS7 := hid hS7
              have HM7 := hid hM7
              obtain ⟨a2, b2, bo, el, hX7, -⟩ := hS7
              have y9 := hX7.cell 9 (v := el) rfl
              have f9 := hX7.free 9
              have HLO := hid (show D + 1 ≤ W5.heap.size from (Array.getElem?_eq_some_iff.1 E6.out).1)
              have HV := hid hv
              have HT7 := hid hT7
              clear hv
              clear hT7 hr7 hM7 hX7 x5
              go_wp2_with fail
              go_roundw
              case rel =>
                have hm := HM7.out.set HPOS.out 9 (.slice p7 q.1.length c7)
                exact ⟨_, j + 1, rfl, HLJ.out, ⟨⟨_, _, E1'.out, HS7.out.setE (by have := HPOS.out; omega) q.1 _ (fun w'' hw => HV.out w'' (hw.sub HLO.out (Nat.le_refl _))), hm.rd, E4.out, E5.out⟩, hm.it, hm.bx, hm.turn⟩⟩
              case measure =>
                have hm := HM7.out.set HPOS.out 9 (.slice p7 q.1.length c7)
                have := HLJ.out
                rw [hm.pos, HIP.out]; omega
          · obtain rfl : j = ls.length := by omega
            have hnx : ∀ ty, (Instr.next (.pointer (some ⟨D, 0, none⟩)) true ty).run Try.prog W = .ok (.tuple #[.bool false]) W := fun ty => run_next_end_at W D S _ ty hI.it (by rw [HSZ.out]; omega)
            obtain ⟨⟨st, r3, e1, e2, e3, e4, e5⟩, e6, e7, e8⟩ := hI
            rw [List.drop_length] at e1
            obtain rfl : (st, r3) = p := e1
            obtain ⟨p2, c2, p5, c5, p8, c8, p9, c9, hX, hR⟩ := e2.rst e4 e5
            have y0 := hX.cell 0 (v := .int .u8 st.kind) rfl
            have y1 := hX.cell 1 (v := .int .i64 st.to) rfl
            have y2 := hX.cell 2 (v := .int .u8 st.a.op) rfl
            have y3 := hX.cell 3 (v := .int .i64 st.a.n) rfl
            have y4 := hX.cell 4 (v := .slice p2 st.a.args.length c2) rfl
            have y5 := hX.cell 5 (v := .int .u8 st.b.op) rfl
            have y6 := hX.cell 6 (v := .int .i64 st.b.n) rfl
            have y7 := hX.cell 7 (v := .slice p5 st.b.args.length c5) rfl
            have y8 := hX.cell 8 (v := .slice p8 st.body.length c8) rfl
            have y9 := hX.cell 9 (v := .slice p9 st.els.length c9) rfl
            have hpos := HPOS.out
            have hXW := hX.lt
            have hDW : D < W.heap.size := (Array.getElem?_eq_some_iff.1 e6).1
            obtain ⟨v', w9, g9, c10, hrun, hv', hrow9, hgr, hown⟩ := rowG_app (P := Try.prog) (t := 56) (by_ := 144) (w1 := W) st [.int .u8 st.kind, .int .i64 st.to, .int .u8 st.a.op, .int .i64 st.a.n, .slice p2 st.a.args.length c2, .int .u8 st.b.op, .int .i64 st.b.n, .slice p5 st.b.args.length c5, .slice p8 st.body.length c8, .slice p9 st.els.length c9] HROW.out HLEN.out rfl (by omega)
              (Agree.of_turn e8 (by simp; omega)) e8.size (fun w'' hw => hR w'' (hw.sub (by omega) (Nat.le_refl _))) Try.underlying56 HI0.out HZ0.out HZ1.out HZ2.out rfl (by simp [Value.oneCell']) (by have := HLTN.out; have := HLE.out; unfold maxLen; omega) (by have := HLTN.out; have := HLE.out; omega)
            have hat : ∀ j, j < W.heap.size → j ≤ w.heap.size → w9.heap[j]? = W.heap[j]? := fun j h1 h2 => grown_at hgr h1 (fun e => by have := hown j e; omega)
            have HRUN := hid hrun
            have HFIN : Hid (BkI w rb s B tot n (k + 1) v' w9) := hid ⟨⟨out ++ [st], _, r3, by simp [HLEN.out], HST2.out, hrow9, ⟨(hat rb (by have := e8.size; omega) (by omega)).trans e3.blk, e3.s_, e3.at_, e3.sz⟩⟩, (hat w.heap.size (by have := e8.size; omega) (Nat.le_refl _)).trans e7, ((HT.out.trans e8).trans (Turn.of_below (ext_alloc (ext_refl W) _))).grown hgr (fun g hg => by have := hown g hg; omega)⟩
            have HV' := hid hv'
            clear e2 e3 e4 e5 e6 e7 e8 hX hR hrun hrow9 hgr hown hat hv' hpos hXW hDW
            go_wp2_with (refine wpList_append_run rfl (.tmp 72) (.tmp 74) 56 56 x (.slice (some ⟨W.heap.size, 0, none⟩) 1 1) v' rfl rfl rfl HRUN.out ?_)
            go_roundw
            case rel => exact ⟨k + 1, _, _, rfl, rfl, HLTN.out, by go_num, HFIN.out⟩
            case measure => have := HLTN.out; simp [intOf]; omega
      · have HBAD := hid (bad_any rb s r2 _ HM4.out true (by simpa using he))
        have HTT : Hid (tot = ([], r2)) := hid (by have := HST.out; rw [if_pos he] at this; exact this.symm)
        clear he
        go_wp2_with fail
        refine HBAD.out.mono ?_
        rintro e' w5 ⟨rfl, hb5⟩
        have HB5 := hid hb5
        clear hb5 x4
        go_wp2_with fail
        go_ret
        rw [HTT.out]
        exact ⟨_, rfl, (HM4.out.below HB5.out).blk, ((((HT.out).trans HT3.out).trans (Turn.of_below HB4.out))).trans (Turn.of_below HB5.out), fun w'' _ => rdTx_nil w''⟩
    · obtain rfl : k = n := by omega
      have g1 : decide ((k : Int) < (k : Int)) = false := by rw [decide_eq_false_iff_not]; omega
      obtain ⟨⟨out, news, r', hlen, hst, hrow, hrd⟩, hbx, hT⟩ := hI
      rw [Nat.sub_self, stmtsL] at hst
      subst hst
      have HROW := hid hrow
      have HRD := hid hrd
      have HT := hid hT
      have HLEN := hid hlen
      clear hrow hrd hbx hT hlen
      go_wp2_with fail
      go_ret
      refine ⟨_, rfl, HRD.out.blk, HT.out, fun w'' hw => RdTx.of_G (rowG_end (by have := HLEN.out; have := HLE.out; omega) (by have := HROW.out; rw [← HLEN.out] at this; exact this) w'' (hw.sub (by omega) (Nat.le_refl _)))⟩
theorem block_any : ∀ (d : Nat) (rb : Nat) (s : ByteArray) (r : Rdr) (w : World), RdM w rb s r → d ≤ 6 →
    Calls Try.prog 32 #[.agg #[.pointer (some ⟨rb, 0, none⟩)], .int .i64 ((7 - d : Nat) : Int)] w (ReadG (fun w'' v => RdTx w'' (blockL d r).1 v) rb s (blockL d r).2 w) := by
  intro d
  induction d with
  | zero =>
    intro rb s r w h hd
    unfold blockL
    by_cases h0 : 0 < (numL r 0 40).1
    · rw [if_pos h0]
      exact block_deep rb s r w h h0
    · rw [if_neg h0]
      exact block_none rb s r _ w h (by omega)
  | succ d ih =>
    intro rb s r w h hd
    unfold blockL
    by_cases h0 : 0 < (numL r 0 40).1
    · refine block_go rb s r _ (blockL d) w h h0 (by omega) (blockL_ok d) (fun r' w' h' => ?_)
      have := ih rb s r' w' h' (by omega)
      rwa [show ((7 - (d + 1) : Nat) : Int) + 1 = ((7 - d : Nat) : Int) by omega]
    · have e : (numL r 0 40).1 = 0 := by omega
      rw [e]
      exact block_none rb s r _ w h e
end Go.Proofs.Ytaklfjjkeebheaa
