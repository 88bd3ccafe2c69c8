/-
  Walks: a pack's writer: Num, Int, num.
-/
import Derived.Test.YtaklfjjkeebheaaPbV
import Derived.Test.YtaklfjjkeebheaaDeL8
import Derived.Test.YtaklfjjkeebheaaPbF
namespace Go.Proofs.Ytaklfjjkeebheaa
set_option linter.unusedVariables false
set_option linter.unusedSimpArgs false
set_option linter.unusedVariables false
open Go Go.RowKit
theorem WrtO.new {W : World} {b : Nat} {m : Int} (h : Blk W b #[.int .i64 m, .slice none 0 0] 83) : WrtO W b m [] (b + 1) (.slice none 0 0) :=
  ⟨h, World.ownsRow_nil _ _ _ _, by omega⟩
theorem putN_ten (n : Nat) : (putN n).length ≤ 10 := putF_len 10 n
/-- A writer has gone on: its bytes, its own row, what else has turned. -/
structure WrG (b : Nat) (v : Value) (W : World) (bs' : List Nat) (v' : Value) (W' : World) : Prop where
  w : WrtO W' b 16777216 bs' (b + 1) v'
  own : v'.ownBlock = v.ownBlock ∨ ∃ g, v'.ownBlock = some g ∧ W.heap.size ≤ g
  turn : Turn (b :: v.ownBlock.toList) W W'
theorem WrG.refl {b : Nat} {v : Value} {W : World} {bs : List Nat} (h : WrtO W b 16777216 bs (b + 1) v) : WrG b v W bs v W := ⟨h, .inl rfl, Turn.refl _ _⟩
theorem WrG.trans {b : Nat} {v v' v'' : Value} {W W' W'' : World} {x y : List Nat} (h : WrG b v W x v' W') (g : WrG b v' W' y v'' W'') : WrG b v W y v'' W'' := by
  have hs := h.turn.size
  refine ⟨g.w, ?_, ⟨g.turn.os.trans h.turn.os, g.turn.tape.trans h.turn.tape, g.turn.output.trans h.turn.output, Nat.le_trans hs g.turn.size, fun k hk hn => ?_⟩⟩
  · rcases g.own with e | ⟨q, e, hq⟩
    · rw [e]; exact h.own
    · exact .inr ⟨q, e, Nat.le_trans hs hq⟩
  · rw [g.turn.block k (Nat.lt_of_lt_of_le hk hs) (fun hm => ?_), h.turn.block k hk hn]
    rcases List.mem_cons.1 hm with e | hm
    · exact hn (by rw [e]; simp)
    · rcases h.own with e | ⟨q, e, hq⟩
      · rw [e] at hm; exact hn (List.mem_cons_of_mem _ hm)
      · rw [e] at hm; simp at hm; omega
theorem WrG.below {b : Nat} {v v' : Value} {W W' W'' : World} {x : List Nat} (h : WrG b v W x v' W') (hb : Below W'.heap.size W' W'') : WrG b v W x v' W'' :=
  ⟨h.w.below hb, h.own, h.turn.trans (Turn.of_below hb)⟩
theorem WrG.ahead {b : Nat} {v v' : Value} {W W' W'' : World} {x : List Nat} (h : WrG b v W' x v' W'') (hb : Below W.heap.size W W') : WrG b v W x v' W'' :=
  ⟨h.w, by rcases h.own with e | ⟨q, e, hq⟩; exact .inl e; exact .inr ⟨q, e, Nat.le_trans hb.size hq⟩, (Turn.of_below hb).trans h.turn⟩
/-- What lies elsewhere stays. -/
theorem WrG.keep {b : Nat} {v v' : Value} {W W' : World} {x : List Nat} (h : WrG b v W x v' W') {k : Nat} (hk : k < W.heap.size) (h1 : k ≠ b) (h2 : ∀ g, v.ownBlock = some g → k ≠ g) : W'.heap[k]? = W.heap[k]? :=
  h.turn.block k hk (fun hm => by
    rcases List.mem_cons.1 hm with e | hm
    · exact h1 e
    · cases hv : v.ownBlock with
      | none => rw [hv] at hm; simp at hm
      | some g => rw [hv] at hm; simp at hm; exact h2 g hv hm)
/-- What lies ahead of the writer stays. -/
theorem WrG.low {b : Nat} {v v' : Value} {W W' : World} {x bs : List Nat} (h : WrG b v W x v' W') (hw : WrtO W b 16777216 bs (b + 1) v) {B : Nat} (hB : B ≤ b) (hb : b < W.heap.size) : Below B W W' :=
  ⟨h.turn.os, h.turn.tape, h.turn.output, h.turn.size, fun k hk => h.keep (by omega) (by omega) (fun g hg => by have := (hw.own.lt g hg).1; omega)⟩
set_option maxRecDepth 100000 in
set_option maxHeartbeats 4000000 in
theorem wnumM_any (b : Nat) (bs : List Nat) (v : Value) (n : Nat) (W : World) (h : WrtO W b 16777216 bs (b + 1) v) (hn : n < 18446744073709551616) (hl : bs.length ≤ 16777200) (hbase : b < W.heap.size) :
    Calls Try.prog 37 #[.pointer (some ⟨b, 0, none⟩), .int .u64 (n : Int)] W fun e W' => (∃ x, e = .returned x) ∧ ∃ v', WrG b v W (bs ++ putN n) v' W' := by
  have HP := hid (vput_any n W hn)
  have hpl := putN_ten n
  have hpp : 0 < (putN n).length := putN_pos n
  have HRAW := hid (fun (s : ByteArray) (hs : byt s = putN n) (W' : World) (hb : Below W.heap.size W W') => raw_any b 16777216 bs (b + 1) v s W' (h.below hb) (by rw [← byt_len, hs]; exact hpp) (by rw [← byt_len, hs]; omega) (by omega) (by omega) (by rw [← byt_len, hs]; omega) (Nat.le_trans hbase hb.size))
  clear h hn hl hbase hpl hpp
  obtain ⟨Q, hQ⟩ : ∃ Q : Ending → World → Prop, Q = fun e W' => (∃ x, e = .returned x) ∧ ∃ v', WrG b v W (bs ++ putN n) v' W' := ⟨_, rfl⟩
  rw [← hQ]
  have HQ := hid hQ
  clear hQ
  go_enter Try.func37, Try.ntmps37
  go_wp2_with fail
  refine HP.out.mono ?_
  rintro e' w1 ⟨s, rfl, hs, hb1⟩
  have HR := hid (HRAW.out s hs w1 hb1)
  rw [hs] at HR
  have HB := hid hb1
  clear hb1 hs
  go_wp2_with fail
  refine HR.out.mono ?_
  rintro e' w2 ⟨rfl, v', hw, hv, hT⟩
  go_wp2_with fail
  rw [HQ.out]
  exact ⟨⟨_, rfl⟩, v', WrG.ahead ⟨hw, hv, hT⟩ HB.out⟩
set_option maxRecDepth 100000 in
set_option maxHeartbeats 4000000 in
theorem wintM_any (b : Nat) (bs : List Nat) (v : Value) (x : Int) (W : World) (h : WrtO W b 16777216 bs (b + 1) v) (hx : -9223372036854775808 ≤ x ∧ x ≤ 9223372036854775807) (hl : bs.length ≤ 16777200) (hbase : b < W.heap.size) :
    Calls Try.prog 19 #[.pointer (some ⟨b, 0, none⟩), .int .i64 x] W fun e W' => (∃ x, e = .returned x) ∧ ∃ v', WrG b v W (bs ++ putN (zigZ x)) v' W' := by
  have HZ := hid (zig_any x W hx)
  have HN := hid (wnumM_any b bs v (zigZ x) W h (zig_lt x hx) hl hbase)
  clear h hx hl hbase
  obtain ⟨Q, hQ⟩ : ∃ Q : Ending → World → Prop, Q = fun e W' => (∃ x, e = .returned x) ∧ ∃ v', WrG b v W (bs ++ putN (zigZ x)) v' W' := ⟨_, rfl⟩
  rw [← hQ]
  have HQ := hid hQ
  rw [← hQ] at HN
  clear hQ
  go_enter Try.func19, Try.ntmps19
  go_wp2_with fail
  refine HZ.out.mono ?_
  rintro e' w1 ⟨rfl, rfl⟩
  go_wp2_with fail
  refine HN.out.mono ?_
  rintro e' w2 hq
  have hq' := hq
  rw [HQ.out] at hq'
  obtain ⟨⟨y, rfl⟩, hv⟩ := hq'
  go_wp2_with fail
  rw [HQ.out]
  exact ⟨⟨_, rfl⟩, hv⟩
/-- Numbers in memory, in a row. -/
def NumsAt (w : World) (a o : Nat) (l : List Int) : Prop := ∀ k (h : k < l.length), w.cell? ⟨a, o + k, none⟩ = some (.int .i64 l[k])
def numsB (l : List Int) : List Nat := l.flatMap fun n => putN (u64 n)
theorem numsB_len : ∀ (l : List Int), (numsB l).length ≤ 10 * l.length
  | [] => by simp [numsB]
  | n :: ns => by
    have := numsB_len ns
    have := putN_ten (u64 n)
    unfold numsB at *
    rw [List.flatMap_cons, List.length_append, List.length_cons]
    omega
theorem numsB_take {l : List Int} {k : Nat} (h : k < l.length) : numsB (l.take (k + 1)) = numsB (l.take k) ++ putN (u64 l[k]) := by
  unfold numsB
  rw [List.take_succ_eq_append_getElem h, List.flatMap_append]
  simp
theorem u64_lt (n : Int) : u64 n < 18446744073709551616 := by unfold u64; omega
theorem u64_wrap (n : Int) : IntKind.u64.wrap n = (u64 n : Int) := by simp [IntKind.wrap, IntKind.signed, IntKind.bits, u64]; omega
set_option maxRecDepth 100000 in
set_option maxHeartbeats 4000000 in
theorem wnum_any (b a : Nat) (bs : List Nat) (v : Value) (l : List Int) (cap : Nat) (W : World) (h : WrtO W b 16777216 bs (b + 1) v) (hn : Blk W a ((l.map (Value.int .i64 ·)).toArray) 3) (hl : l.length ≤ 100) (hbs : bs.length ≤ 16700000) (hbase : b < W.heap.size) (ha : a ≠ b ∧ ∀ g, v.ownBlock = some g → a ≠ g) :
    Calls Try.prog 18 #[.agg #[.pointer (some ⟨b, 0, none⟩)], .slice (some ⟨a, 0, none⟩) l.length cap] W fun e W' => (∃ x, e = .returned x) ∧ ∃ v', WrG b v W (bs ++ numsB l) v' W' := by
  obtain ⟨W1, hW1⟩ : ∃ W1, W1 = W.alloc (.cells #[.pointer (some ⟨b, 0, none⟩)] 52) := ⟨_, rfl⟩
  have hb1 : Below W.heap.size W W1 := by rw [hW1]; exact ext_alloc (ext_refl _) _
  have hbx : Blk W1 W.heap.size #[.pointer (some ⟨b, 0, none⟩)] 52 := by rw [hW1]; exact Blk.new _ _ _
  have HW := hid (WrG.refl (h.below hb1))
  have HX := hid hbx
  have HN := hid (hn.below hb1)
  have HL := hid hl
  have HBS := hid hbs
  have HSZ := hid (show b < W.heap.size ∧ W1.heap.size = W.heap.size + 1 ∧ a < W.heap.size from ⟨hbase, by rw [hW1]; simp, hn.lt⟩)
  have HA := hid ha
  have HB1 := hid hb1
  have HW1 := hid hW1
  have HOW := hid (fun g hg => (h.own.lt g hg).2)
  clear h hn hl hbs hbase ha hb1 hbx hW1
  obtain ⟨Q, hQ⟩ : ∃ Q : Ending → World → Prop, Q = fun e W' => (∃ x, e = .returned x) ∧ ∃ v', WrG b v W (bs ++ numsB l) v' W' := ⟨_, rfl⟩
  rw [← hQ]
  have HQ := hid hQ
  clear hQ
  go_enter Try.func18, Try.ntmps18
  go_wp2_with fail
  go_loopw [8] (fun i wr => ∃ (k : Nat) (u : Value), k ≤ l.length ∧ i = .int .i64 k ∧ WrG b v W1 (bs ++ numsB (l.take k)) u wr) (fun i _ => l.length - (intOf i).toNat)
  case atStart =>
    rw [← HW1.out]
    exact ⟨0, v, Nat.zero_le _, rfl, by simpa [numsB] using HW.out⟩
  case round =>
    obtain ⟨k, u, hk, rfl, hG⟩ := hrel
    by_cases hlt : k < l.length
    · have g1 : decide ((k : Int) < (l.length : Int)) = true := by rw [decide_eq_true_iff]; omega
      have g2 : decide (k < l.length) = true := decide_eq_true hlt
      have g3 : IntKind.i64.wrap ((k : Int) + 1) = (k : Int) + 1 := IntWalk.i64_in _ (by have := HL.out; omega)
      have hsz := HSZ.out
      have hN := (hG.keep (k := a) (by omega) HA.out.1 HA.out.2).trans HN.out
      have hX := (hG.keep (k := W.heap.size) (by omega) (by omega) (fun g hg e => by have := HOW.out g hg; omega)).trans HX.out
      have c0 := Blk.cell hN k (v := .int .i64 l[k]) (by simp [hlt])
      have x0 := Blk.cell hX 0 (v := .pointer (some ⟨b, 0, none⟩)) rfl
      have hnb := numsB_len (l.take k)
      have hNM := wnumM_any b _ u (u64 l[k]) _ hG.w (u64_lt _) (by rw [List.length_append]; rw [List.length_take] at hnb; have := HL.out; have := HBS.out; omega) (Nat.lt_of_lt_of_le (by omega) hG.turn.size)
      have HNM := hid hNM
      have htk := numsB_take hlt
      have hwr := u64_wrap l[k]
      have hal := Blk.lt hN
      generalize l[k] = n at *
      have HTK := hid htk
      have HG := hid hG
      have HLT := hid hlt
      clear hG hN hX hNM htk hnb hk hlt hsz
      go_wp2_with fail
      refine HNM.out.mono ?_
      rintro e' w2 ⟨⟨y, rfl⟩, v', hG2⟩
      have HG2 := hid (HG.out.trans hG2)
      clear hG2 c0 x0
      go_wp2_with fail
      go_roundw
      case rel => exact ⟨k + 1, v', HLT.out, by go_num, by rw [HTK.out, ← List.append_assoc]; exact HG2.out⟩
      case measure => have := HLT.out; simp [intOf]; omega
    · obtain rfl : k = l.length := by omega
      have g1 : decide ((l.length : Int) < (l.length : Int)) = false := by rw [decide_eq_false_iff_not]; omega
      have HG := hid hG
      clear hG
      go_wp2_with fail
      refine bodyPost_ret (v := .tuple #[]) (by simp [results, Try.results18, go_sem]) rfl ?_
      rw [HQ.out]
      have := HG.out
      rw [List.take_length] at this
      exact ⟨⟨_, rfl⟩, u, this.ahead HB1.out⟩
end Go.Proofs.Ytaklfjjkeebheaa
