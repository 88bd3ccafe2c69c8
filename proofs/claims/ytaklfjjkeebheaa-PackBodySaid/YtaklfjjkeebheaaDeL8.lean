/-
  Walk: a writer's Raw.
-/
import Derived.Test.YtaklfjjkeebheaaApS
import Derived.Test.YtaklfjjkeebheaaPbW
namespace Go.Proofs.Ytaklfjjkeebheaa
set_option linter.unusedVariables false
set_option linter.unusedSimpArgs false
set_option linter.unusedVariables false
open Go Go.RowKit
theorem infoU8 : (Try.prog.info? 5).map (fun i => (i.zero, i.size, i.bytes)) = some (some (.int .u8 0), 1, 1) := by kernel_rfl
def u8s (bs : List Nat) : List Value := bs.map fun (c : Nat) => Value.int .u8 (c : Int)
theorem u8s_app (a b : List Nat) : u8s (a ++ b) = u8s a ++ u8s b := by simp [u8s]
theorem bytesL_u8 (s : ByteArray) : bytesL s = u8s (byt s) := by simp [bytesL, u8s, byt]
theorem wpList_append_run {P : Program} {ops : Array Oper} {rest : List Oper} {o : Oper} {a : Act} {w w' : World} {Q : Exit → Act → World → Prop} (hgd : o.guard = none) (s x : Operand) (t u : TypeId) (vs vx v' : Value)
    (ho : o.op = .call { callee := .builtin .append, args := #[s, x], argTypes := #[t, u] }) (hs : a.eval s = vs) (hx : a.eval x = vx) (hrun : (Builtin.append_ #[t, u] o.type #[vs, vx]).run P w = .ok v' w') (h : wpList P ops Q rest (a.put o.dst v') w') : wpList P ops Q (o :: rest) a w :=
  wpList_plain hgd fun K hK => by
    unfold Oper.wp execOp
    simp only [ho, resolve, invoke, builtin, Sem.run_bind, Sem.run_pure, Result.andThen_ok, List.map_toArray, List.map_cons, List.map_nil, hs, hx, hrun]
    exact hK _ _ h
/-- A writer whose bytes are its own: they lie at base, or behind. -/
structure WrtO (w : World) (b : Nat) (most : Int) (bs : List Nat) (base : Nat) (v : Value) : Prop where
  blk : Blk w b #[.int .i64 most, v] 83
  own : w.ownsRow base 5 1 v bs.length (u8s bs)
  lt : b < base
theorem WrtO.wrt {w : World} {b : Nat} {most : Int} {bs : List Nat} {base : Nat} {v : Value} (h : WrtO w b most bs base v) : WrtAt w b most bs := by
  refine ⟨v, h.blk, ?_⟩
  rcases h.own.2 with ⟨h1, h2⟩ | ⟨g, cap, cur, hv, hb, hg, h3, h4, h5, h6⟩
  · exact Or.inl ⟨h1, List.eq_nil_of_length_eq_zero h2⟩
  · refine Or.inr ⟨g, cap, cur, hv, by have := h.lt; omega, hg, fun j hj => ?_⟩
    have : (u8s bs)[j]? = some (.int .u8 (bs[j] : Int)) := by simp [u8s, hj]
    rw [← h6, List.getElem?_take] at this
    split at this
    · simpa using this
    · cases this
theorem WrtO.below {w w' : World} {b : Nat} {most : Int} {bs : List Nat} {base : Nat} {v : Value} (h : WrtO w b most bs base v) (hb : Below w.heap.size w w') : WrtO w' b most bs base v :=
  ⟨h.blk.below hb, h.own.kept (row := none) ⟨hb.os, hb.tape, hb.output, hb.size, fun k hk _ => hb.block k hk⟩ (by cases v.ownBlock <;> simp), h.lt⟩
theorem drewN_hq (w : World) (n : Nat) : (w.drewN n).heap = w.heap := by
  induction n with
  | zero => rfl
  | succ n ih => exact ih
/-- What Raw tells. -/
def RawP (b : Nat) (most : Int) (bs : List Nat) (base : Nat) (v : Value) (W : World) (e' : Ending) (W' : World) : Prop :=
  e' = .returned (.int .i64 0) ∧ ∃ v', WrtO W' b most bs base v' ∧ (v'.ownBlock = v.ownBlock ∨ ∃ g, v'.ownBlock = some g ∧ W.heap.size ≤ g) ∧ Turn (b :: v.ownBlock.toList) W W'
set_option maxRecDepth 100000 in
set_option maxHeartbeats 4000000 in
theorem raw_any (b : Nat) (most : Int) (bs : List Nat) (base : Nat) (v : Value) (s : ByteArray) (W : World) (h : WrtO W b most bs base v) (hs0 : 0 < s.size) (hs : s.size ≤ 1000) (hl : bs.length ≤ 16777216) (hm : 0 ≤ most ∧ most ≤ 16777216) (hfit : (s.size : Int) ≤ most - (bs.length : Int)) (hbase : base ≤ W.heap.size) :
    Calls Try.prog 57 #[.pointer (some ⟨b, 0, none⟩), .string s] W (RawP b most (bs ++ byt s) base v W) := by
  obtain ⟨i0, hi0, hz0, hz1, hz2⟩ := info_parts infoU8
  have HAP := hid (fun (W' : World) (hown : W'.ownsRow base 5 1 v bs.length (u8s bs)) (hb' : base ≤ W'.heap.size) => run_append_str (P := Try.prog) W' base 81 9 81 5 i0 _ 1 Try.underlying81 Try.underlying9 hi0 hz0 hz1 hz2 rfl v bs.length (u8s bs) hown s hs0 (by unfold maxLen; omega) (by omega) hb')
  have d0 := h.blk.cell 0 (v := .int .i64 most) rfl
  have d1 := h.blk.cell 1 (v := v) rfl
  have j1 : IntKind.i64.wrap (most - (bs.length : Int)) = most - (bs.length : Int) := IntWalk.i64_in _ (by omega)
  have j2 : decide (most - (bs.length : Int) < (s.size : Int)) = false := by rw [decide_eq_false_iff_not]; omega
  have j3 : IntKind.i64.wrap (most - 0) = most - 0 := IntWalk.i64_in _ (by omega)
  have j4 : wrap64 most = most := by unfold wrap64; omega
  have j5 : IntKind.i64.wrap most = most := IntWalk.i64_in _ (by omega)
  have hj6 : bs.length = 0 → decide (most < (s.size : Int)) = false := fun hn => by rw [decide_eq_false_iff_not]; omega
  have H := hid h
  have HB := hid hbase
  have HS0 := hid hs0
  have hform : (v = .slice none 0 0 ∧ bs.length = 0) ∨ ∃ g cap, v = .slice (some ⟨g, 0, none⟩) bs.length cap := by
    rcases h.own.2 with ⟨h1, h2⟩ | ⟨g, cap, cur, hv, -⟩
    · exact Or.inl ⟨h1, h2⟩
    · exact Or.inr ⟨g, cap, hv⟩
  clear h hs0 hs hl hm hfit hbase hi0 hz0 hz1 hz2
  unfold RawP
  go_enter Try.func57, Try.ntmps57
  go_wp2_with fail
  rcases hform with ⟨hv, hn⟩ | ⟨g, cap, hv⟩
  · have HV := hid hv
    rw [hv] at d1
    have j6 := hj6 hn
    have HNN := hid hn
    clear hv hn hj6 j1 j2 j3
    go_quiet (fail)
    obtain ⟨v', w', hrun, hown', hgr, hat⟩ := HAP.out (W.drewN nq) (H.out.below (ext_drewN (ext_refl _) nq)).own (Nat.le_trans HB.out (ext_drewN (ext_refl W) nq).size)
    obtain ⟨g9, c9, rfl⟩ : ∃ g9 c9, v' = .slice (some ⟨g9, 0, none⟩) (bs.length + s.size) c9 := by
      rcases hown'.2 with ⟨-, h2⟩ | ⟨g9, c9, cur, hv9, -⟩
      · have := HS0.out; omega
      · exact ⟨g9, c9, hv9⟩
    rw [HV.out] at hrun
    have hbb : w'.heap[b]? = (W.drewN nq).heap[b]? := hgr.block b (Nat.lt_of_lt_of_le H.out.blk.lt (ext_drewN (ext_refl W) nq).size) (fun e => by have := (H.out.own.lt b e.symm).1; have := H.out.lt; omega)
    have hblk : Blk w' b #[.int .i64 most, v] 83 := by unfold Blk; rw [hbb]; exact (H.out.below (ext_drewN (ext_refl _) nq)).blk
    have d1' := hblk.cell 1 (v := v) rfl
    rw [HV.out] at d1'
    have z1' := hblk.free 1
    have HBLK := hid hblk
    have HOWN := hid hown'
    have HGR := hid hgr
    have HAT := hid hat
    have HRUN := hid hrun
    clear hbb hblk hown' hgr hat HAP hrun
    go_wp2_with (refine wpList_append_run rfl (.tmp 26) (.tmp 27) 81 9 _ _ (.slice (some ⟨g9, 0, none⟩) (bs.length + s.size) c9) rfl rfl rfl HRUN.out ?_)
    go_ret
    refine ⟨rfl, .slice (some ⟨g9, 0, none⟩) (bs.length + s.size) c9, ⟨HBLK.out.set 1 _, ?_, H.out.lt⟩, ?_, ?_⟩
    · rw [List.length_append, byt_len, u8s_app, ← bytesL_u8]
      refine HOWN.out.kept (row := some b) ⟨rfl, rfl, rfl, by simp [World.setCell], fun k hk hne => Below.heap_setCell _ _ _ _ (fun hh => hne (by rw [hh]))⟩ (Or.inr fun hh => ?_)
      have := (HOWN.out.lt b hh).1
      have := H.out.lt
      omega
    · rcases HAT.out with e | e
      · exact Or.inl e
      · exact Or.inr ⟨_, e, by rw [show (W.drewN nq).heap.size = W.heap.size by rw [drewN_hq]]; exact Nat.le_refl _⟩
    · have hT : Turn (b :: v.ownBlock.toList) W w' := by
        have h1 : Turn (b :: v.ownBlock.toList) W (W.drewN nq) := (Turn.refl _ W).drewN nq
        refine h1.trans ⟨HGR.out.os, HGR.out.tape, HGR.out.output, HGR.out.size, fun k hk hn => HGR.out.block k hk (fun e => hn (List.mem_cons_of_mem _ (by rw [← e]; simp)))⟩
      exact hT.setCell (Or.inl (by simp)) _
  · have HV := hid hv
    rw [hv] at d1
    clear hv hj6 j4 j5
    go_quiet (fail)
    obtain ⟨v', w', hrun, hown', hgr, hat⟩ := HAP.out (W.drewN nq) (H.out.below (ext_drewN (ext_refl _) nq)).own (Nat.le_trans HB.out (ext_drewN (ext_refl W) nq).size)
    obtain ⟨g9, c9, rfl⟩ : ∃ g9 c9, v' = .slice (some ⟨g9, 0, none⟩) (bs.length + s.size) c9 := by
      rcases hown'.2 with ⟨-, h2⟩ | ⟨g9, c9, cur, hv9, -⟩
      · have := HS0.out; omega
      · exact ⟨g9, c9, hv9⟩
    rw [HV.out] at hrun
    have hbb : w'.heap[b]? = (W.drewN nq).heap[b]? := hgr.block b (Nat.lt_of_lt_of_le H.out.blk.lt (ext_drewN (ext_refl W) nq).size) (fun e => by have := (H.out.own.lt b e.symm).1; have := H.out.lt; omega)
    have hblk : Blk w' b #[.int .i64 most, v] 83 := by unfold Blk; rw [hbb]; exact (H.out.below (ext_drewN (ext_refl _) nq)).blk
    have d1' := hblk.cell 1 (v := v) rfl
    rw [HV.out] at d1'
    have z1' := hblk.free 1
    have HBLK := hid hblk
    have HOWN := hid hown'
    have HGR := hid hgr
    have HAT := hid hat
    have HRUN := hid hrun
    clear hbb hblk hown' hgr hat HAP hrun
    go_wp2_with (refine wpList_append_run rfl (.tmp 26) (.tmp 27) 81 9 _ _ (.slice (some ⟨g9, 0, none⟩) (bs.length + s.size) c9) rfl rfl rfl HRUN.out ?_)
    go_ret
    refine ⟨rfl, .slice (some ⟨g9, 0, none⟩) (bs.length + s.size) c9, ⟨HBLK.out.set 1 _, ?_, H.out.lt⟩, ?_, ?_⟩
    · rw [List.length_append, byt_len, u8s_app, ← bytesL_u8]
      refine HOWN.out.kept (row := some b) ⟨rfl, rfl, rfl, by simp [World.setCell], fun k hk hne => Below.heap_setCell _ _ _ _ (fun hh => hne (by rw [hh]))⟩ (Or.inr fun hh => ?_)
      have := (HOWN.out.lt b hh).1
      have := H.out.lt
      omega
    · rcases HAT.out with e | e
      · exact Or.inl e
      · exact Or.inr ⟨_, e, by rw [show (W.drewN nq).heap.size = W.heap.size by rw [drewN_hq]]; exact Nat.le_refl _⟩
    · have hT : Turn (b :: v.ownBlock.toList) W w' := by
        have h1 : Turn (b :: v.ownBlock.toList) W (W.drewN nq) := (Turn.refl _ W).drewN nq
        refine h1.trans ⟨HGR.out.os, HGR.out.tape, HGR.out.output, HGR.out.size, fun k hk hn => HGR.out.block k hk (fun e => hn (List.mem_cons_of_mem _ (by rw [← e]; simp)))⟩
      exact hT.setCell (Or.inl (by simp)) _
end Go.Proofs.Ytaklfjjkeebheaa
