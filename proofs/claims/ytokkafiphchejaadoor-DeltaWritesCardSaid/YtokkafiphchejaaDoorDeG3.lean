/-
  Joined texts: DeL8 DeL9 DeLa DeLb DeS1 DeOpen DeOpen2.
-/
import Derived.Test.YtokkafiphchejaaDoorApS
import Derived.Test.YtokkafiphchejaaDoorDeG2
import Derived.Test.YtokkafiphchejaaDoorDeGW
import Derived.Laws.EntriesVeiled
import Derived.ProofKit
import Derived.OpenShut
import Derived.ChangeMaps5
/-
  Walk: a writer's Raw.
-/
namespace Go.Proofs.YtokkafiphchejaaDoor
set_option linter.unusedVariables false
set_option linter.unusedSimpArgs false
set_option linter.unusedVariables false
open Go Go.RowKit
theorem infoU8 : (Tryd.prog.info? 5).map (fun i => (i.zero, i.size, i.bytes)) = some (some (.int .u8 0), 1, 1) := by kernel_rfl
def u8s (bs : List Nat) : List Value := bs.map fun (c : Nat) => Value.int .u8 (c : Int)
theorem u8s_app (a b : List Nat) : u8s (a ++ b) = u8s a ++ u8s b := by simp [u8s]
theorem bytesL_u8 (s : ByteArray) : bytesL s = u8s (byt s) := by simp [bytesL, u8s, byt]
theorem wpList_append_run {P : Program} {ops : Array Oper} {rest : List Oper} {o : Oper} {a : Act} {w w' : World} {Q : Exit → Act → World → Prop} (hgd : o.guard = none) (s x : Operand) (t u : TypeId) (vs vx v' : Value)
    (ho : o.op = .call { callee := .builtin .append, args := #[s, x], argTypes := #[t, u] }) (hs : a.eval s = vs) (hx : a.eval x = vx) (hrun : (Builtin.append_ #[t, u] o.type #[vs, vx]).run P w = .ok v' w') (h : wpList P ops Q rest (a.put o.dst v') w') : wpList P ops Q (o :: rest) a w :=
  wpList_plain hgd fun K hK => by
    unfold Oper.wp execOp
    simp only [ho, resolve, invoke, builtin, Sem.run_bind, Sem.run_pure, Result.andThen_ok, List.map_toArray, List.map_cons, List.map_nil, hs, hx, hrun]
    exact hK _ _ h
/-- A writer whose bytes are its own: they lie at base, or behind. -/
structure WrtO (w : World) (b : Nat) (most : Int) (bs : List Nat) (base : Nat) (v : Value) : Prop where
  blk : Blk w b #[.int .i64 most, v] 77
  own : w.ownsRow base 5 1 v bs.length (u8s bs)
  lt : b < base
theorem WrtO.wrt {w : World} {b : Nat} {most : Int} {bs : List Nat} {base : Nat} {v : Value} (h : WrtO w b most bs base v) : WrtAt w b most bs := by
  refine ⟨v, h.blk, ?_⟩
  rcases h.own.2 with ⟨h1, h2⟩ | ⟨g, cap, cur, hv, hb, hg, h3, h4, h5, h6⟩
  · exact Or.inl ⟨h1, List.eq_nil_of_length_eq_zero h2⟩
  · refine Or.inr ⟨g, cap, cur, hv, by have := h.lt; omega, hg, fun j hj => ?_⟩
    have : (u8s bs)[j]? = some (.int .u8 (bs[j] : Int)) := by simp [u8s, hj]
    rw [← h6, List.getElem?_take] at this
    split at this
    · simpa using this
    · cases this
theorem WrtO.below {w w' : World} {b : Nat} {most : Int} {bs : List Nat} {base : Nat} {v : Value} (h : WrtO w b most bs base v) (hb : Below w.heap.size w w') : WrtO w' b most bs base v :=
  ⟨h.blk.below hb, h.own.kept (row := none) ⟨hb.os, hb.tape, hb.output, hb.size, fun k hk _ => hb.block k hk⟩ (by cases v.ownBlock <;> simp), h.lt⟩
theorem drewN_hq (w : World) (n : Nat) : (w.drewN n).heap = w.heap := by
  induction n with
  | zero => rfl
  | succ n ih => exact ih
/-- What Raw tells. -/
def RawP (b : Nat) (most : Int) (bs : List Nat) (base : Nat) (v : Value) (W : World) (e' : Ending) (W' : World) : Prop :=
  e' = .returned (.int .i64 0) ∧ ∃ v', WrtO W' b most bs base v' ∧ (v'.ownBlock = v.ownBlock ∨ ∃ g, v'.ownBlock = some g ∧ W.heap.size ≤ g) ∧ Turn (b :: v.ownBlock.toList) W W'
set_option maxRecDepth 100000 in
set_option maxHeartbeats 4000000 in
theorem raw_any (b : Nat) (most : Int) (bs : List Nat) (base : Nat) (v : Value) (s : ByteArray) (W : World) (h : WrtO W b most bs base v) (hs0 : 0 < s.size) (hs : s.size ≤ 1000) (hl : bs.length ≤ 16777216) (hm : 0 ≤ most ∧ most ≤ 16777216) (hfit : (s.size : Int) ≤ most - (bs.length : Int)) (hbase : base ≤ W.heap.size) :
    Calls Tryd.prog 36 #[.pointer (some ⟨b, 0, none⟩), .string s] W (RawP b most (bs ++ byt s) base v W) := by
  obtain ⟨i0, hi0, hz0, hz1, hz2⟩ := info_parts infoU8
  have HAP := hid (fun (W' : World) (hown : W'.ownsRow base 5 1 v bs.length (u8s bs)) (hb' : base ≤ W'.heap.size) => run_append_str (P := Tryd.prog) W' base 75 9 75 5 i0 _ 1 Tryd.underlying75 Tryd.underlying9 hi0 hz0 hz1 hz2 rfl v bs.length (u8s bs) hown s hs0 (by unfold maxLen; omega) (by omega) hb')
  have d0 := h.blk.cell 0 (v := .int .i64 most) rfl
  have d1 := h.blk.cell 1 (v := v) rfl
  have j1 : IntKind.i64.wrap (most - (bs.length : Int)) = most - (bs.length : Int) := IntWalk.i64_in _ (by omega)
  have j2 : decide (most - (bs.length : Int) < (s.size : Int)) = false := by rw [decide_eq_false_iff_not]; omega
  have j3 : IntKind.i64.wrap (most - 0) = most - 0 := IntWalk.i64_in _ (by omega)
  have j4 : wrap64 most = most := by unfold wrap64; omega
  have j5 : IntKind.i64.wrap most = most := IntWalk.i64_in _ (by omega)
  have hj6 : bs.length = 0 → decide (most < (s.size : Int)) = false := fun hn => by rw [decide_eq_false_iff_not]; omega
  have H := hid h
  have HB := hid hbase
  have HS0 := hid hs0
  have hform : (v = .slice none 0 0 ∧ bs.length = 0) ∨ ∃ g cap, v = .slice (some ⟨g, 0, none⟩) bs.length cap := by
    rcases h.own.2 with ⟨h1, h2⟩ | ⟨g, cap, cur, hv, -⟩
    · exact Or.inl ⟨h1, h2⟩
    · exact Or.inr ⟨g, cap, hv⟩
  clear h hs0 hs hl hm hfit hbase hi0 hz0 hz1 hz2
  unfold RawP
  go_enter Tryd.func36, Tryd.ntmps36
  go_wp2_with fail
  rcases hform with ⟨hv, hn⟩ | ⟨g, cap, hv⟩
  · have HV := hid hv
    rw [hv] at d1
    have j6 := hj6 hn
    have HNN := hid hn
    clear hv hn hj6 j1 j2 j3
    go_quiet (fail)
    obtain ⟨v', w', hrun, hown', hgr, hat⟩ := HAP.out (W.drewN nq) (H.out.below (ext_drewN (ext_refl _) nq)).own (Nat.le_trans HB.out (ext_drewN (ext_refl W) nq).size)
    obtain ⟨g9, c9, rfl⟩ : ∃ g9 c9, v' = .slice (some ⟨g9, 0, none⟩) (bs.length + s.size) c9 := by
      rcases hown'.2 with ⟨-, h2⟩ | ⟨g9, c9, cur, hv9, -⟩
      · have := HS0.out; omega
      · exact ⟨g9, c9, hv9⟩
    rw [HV.out] at hrun
    have hbb : w'.heap[b]? = (W.drewN nq).heap[b]? := hgr.block b (Nat.lt_of_lt_of_le H.out.blk.lt (ext_drewN (ext_refl W) nq).size) (fun e => by have := (H.out.own.lt b e.symm).1; have := H.out.lt; omega)
    have hblk : Blk w' b #[.int .i64 most, v] 77 := by unfold Blk; rw [hbb]; exact (H.out.below (ext_drewN (ext_refl _) nq)).blk
    have d1' := hblk.cell 1 (v := v) rfl
    rw [HV.out] at d1'
    have z1' := hblk.free 1
    have HBLK := hid hblk
    have HOWN := hid hown'
    have HGR := hid hgr
    have HAT := hid hat
    have HRUN := hid hrun
    clear hbb hblk hown' hgr hat HAP hrun
    go_wp2_with (refine wpList_append_run rfl (.tmp 26) (.tmp 27) 75 9 _ _ (.slice (some ⟨g9, 0, none⟩) (bs.length + s.size) c9) rfl rfl rfl HRUN.out ?_)
    go_ret
    refine ⟨rfl, .slice (some ⟨g9, 0, none⟩) (bs.length + s.size) c9, ⟨HBLK.out.set 1 _, ?_, H.out.lt⟩, ?_, ?_⟩
    · rw [List.length_append, byt_len, u8s_app, ← bytesL_u8]
      refine HOWN.out.kept (row := some b) ⟨rfl, rfl, rfl, by simp [World.setCell], fun k hk hne => Below.heap_setCell _ _ _ _ (fun hh => hne (by rw [hh]))⟩ (Or.inr fun hh => ?_)
      have := (HOWN.out.lt b hh).1
      have := H.out.lt
      omega
    · rcases HAT.out with e | e
      · exact Or.inl e
      · exact Or.inr ⟨_, e, by rw [show (W.drewN nq).heap.size = W.heap.size by rw [drewN_hq]]; exact Nat.le_refl _⟩
    · have hT : Turn (b :: v.ownBlock.toList) W w' := by
        have h1 : Turn (b :: v.ownBlock.toList) W (W.drewN nq) := (Turn.refl _ W).drewN nq
        refine h1.trans ⟨HGR.out.os, HGR.out.tape, HGR.out.output, HGR.out.size, fun k hk hn => HGR.out.block k hk (fun e => hn (List.mem_cons_of_mem _ (by rw [← e]; simp)))⟩
      exact hT.setCell (Or.inl (by simp)) _
  · have HV := hid hv
    rw [hv] at d1
    clear hv hj6 j4 j5
    go_quiet (fail)
    obtain ⟨v', w', hrun, hown', hgr, hat⟩ := HAP.out (W.drewN nq) (H.out.below (ext_drewN (ext_refl _) nq)).own (Nat.le_trans HB.out (ext_drewN (ext_refl W) nq).size)
    obtain ⟨g9, c9, rfl⟩ : ∃ g9 c9, v' = .slice (some ⟨g9, 0, none⟩) (bs.length + s.size) c9 := by
      rcases hown'.2 with ⟨-, h2⟩ | ⟨g9, c9, cur, hv9, -⟩
      · have := HS0.out; omega
      · exact ⟨g9, c9, hv9⟩
    rw [HV.out] at hrun
    have hbb : w'.heap[b]? = (W.drewN nq).heap[b]? := hgr.block b (Nat.lt_of_lt_of_le H.out.blk.lt (ext_drewN (ext_refl W) nq).size) (fun e => by have := (H.out.own.lt b e.symm).1; have := H.out.lt; omega)
    have hblk : Blk w' b #[.int .i64 most, v] 77 := by unfold Blk; rw [hbb]; exact (H.out.below (ext_drewN (ext_refl _) nq)).blk
    have d1' := hblk.cell 1 (v := v) rfl
    rw [HV.out] at d1'
    have z1' := hblk.free 1
    have HBLK := hid hblk
    have HOWN := hid hown'
    have HGR := hid hgr
    have HAT := hid hat
    have HRUN := hid hrun
    clear hbb hblk hown' hgr hat HAP hrun
    go_wp2_with (refine wpList_append_run rfl (.tmp 26) (.tmp 27) 75 9 _ _ (.slice (some ⟨g9, 0, none⟩) (bs.length + s.size) c9) rfl rfl rfl HRUN.out ?_)
    go_ret
    refine ⟨rfl, .slice (some ⟨g9, 0, none⟩) (bs.length + s.size) c9, ⟨HBLK.out.set 1 _, ?_, H.out.lt⟩, ?_, ?_⟩
    · rw [List.length_append, byt_len, u8s_app, ← bytesL_u8]
      refine HOWN.out.kept (row := some b) ⟨rfl, rfl, rfl, by simp [World.setCell], fun k hk hne => Below.heap_setCell _ _ _ _ (fun hh => hne (by rw [hh]))⟩ (Or.inr fun hh => ?_)
      have := (HOWN.out.lt b hh).1
      have := H.out.lt
      omega
    · rcases HAT.out with e | e
      · exact Or.inl e
      · exact Or.inr ⟨_, e, by rw [show (W.drewN nq).heap.size = W.heap.size by rw [drewN_hq]]; exact Nat.le_refl _⟩
    · have hT : Turn (b :: v.ownBlock.toList) W w' := by
        have h1 : Turn (b :: v.ownBlock.toList) W (W.drewN nq) := (Turn.refl _ W).drewN nq
        refine h1.trans ⟨HGR.out.os, HGR.out.tape, HGR.out.output, HGR.out.size, fun k hk hn => HGR.out.block k hk (fun e => hn (List.mem_cons_of_mem _ (by rw [← e]; simp)))⟩
      exact hT.setCell (Or.inl (by simp)) _
end Go.Proofs.YtokkafiphchejaaDoor
/-
  Walk: (*Coder).Write.
-/
namespace Go.Proofs.YtokkafiphchejaaDoor
set_option linter.unusedVariables false
set_option linter.unusedSimpArgs false
set_option linter.unusedVariables false
open Go Go.RowKit
theorem w_meth {T V S : Int} {c : Cdr} {kind tx at_ v x why : Int} {th : Nat} (s : List Nat) (hc : OkC T c) (ht : tellsC T V S c ⟨kind, (th : Int), tx, at_, v, x, why⟩ = true) : MethOk wCl WPx V S c kind th tx at_ v x why s := by
  unfold tellsC at ht
  rw [Bool.and_eq_true] at ht
  obtain ⟨hm, hk2⟩ := ht
  obtain ⟨hs, ⟨k1, k2, hw, t1, t2, x1, x2, v1, v2, a1, a2⟩, hb⟩ := may_sizes' hm
  have hl : 0 ≤ leastV ⟨kind, (th : Int), tx, at_, v, x, why⟩ := by unfold leastV; split <;> omega
  have hp : placesE ⟨kind, (th : Int), tx, at_, v, x, why⟩ V S ≤ V := by
    unfold placesE
    split
    · exact Int.le_refl _
    · split <;> omega
  have hcl := hc.clock
  have hbg := hc.begun th
  unfold maxClockN at hcl hbg
  dsimp only at *
  have hwy : 0 ≤ why ∧ why ≤ 255 := by
    by_cases h10 : kind = 10
    · have := hw h10; omega
    · have : why = 0 := by
        have h := congrArg Ev.why hb
        unfold bareE at h
        dsimp only at h
        repeat' split at h
        all_goals (first | exact h | omega | (exfalso; omega))
      omega
  unfold WPx
  refine ⟨by omega, hcl, hbg, hwy, fun h => ?_, fun h => ?_, fun h => ?_, fun h => ?_, fun h => ?_, fun h => ?_, fun h => ?_⟩
  · subst h; simp at hk2; omega
  · subst h; simp at hk2; omega
  · refine ⟨by omega, at_.toNat, ?_, by omega⟩
    show at_ = _
    omega
  · omega
  · subst h; simp at hk2; omega
  · omega
  · have := hw h
    refine ⟨by omega, by omega, ?_⟩
    show why - 1 ≤ 5
    omega
theorem own_turn {w w' : World} {l : List Nat} {base : Nat} {e : TypeId} {size : Nat} {v : Value} {n : Nat} {xs : List Value} (h : w.ownsRow base e size v n xs) (ht : Turn l w w') (hn : ∀ g, v.ownBlock = some g → g ∉ l) : w'.ownsRow base e size v n xs := by
  refine ⟨h.1, ?_⟩
  rcases h.2 with hh | ⟨g, cap, cur, rfl, hb, hgg, rest⟩
  · exact .inl hh
  · refine .inr ⟨g, cap, cur, rfl, hb, ?_, rest⟩
    rw [ht.block g (Array.getElem?_eq_some_iff.1 hgg).1 (hn g rfl)]
    exact hgg
theorem WrtO.turn {w w' : World} {l : List Nat} {b : Nat} {most : Int} {bs : List Nat} {base : Nat} {v : Value} (h : WrtO w b most bs base v) (ht : Turn l w w') (hb : b ∉ l) (hn : ∀ g, v.ownBlock = some g → g ∉ l) : WrtO w' b most bs base v :=
  ⟨ht.blk hb h.blk, own_turn h.own ht hn, h.lt⟩
theorem w_ats {T V S : Int} {c : Cdr} {kind tx at_ v x why : Int} {th : Nat} (ht : tellsC T V S c ⟨kind, (th : Int), tx, at_, v, x, why⟩ = true) : th < 6 ∧ at_ = (at_.toNat : Int) ∧ (kind = 3 ∨ kind = 8 → at_.toNat < 32) := by
  unfold tellsC at ht
  rw [Bool.and_eq_true] at ht
  obtain ⟨hm, hk2⟩ := ht
  obtain ⟨hs, ⟨k1, k2, hw, t1, t2, x1, x2, v1, v2, a1, a2⟩, hb⟩ := may_sizes' hm
  have : placesE ⟨kind, (th : Int), tx, at_, v, x, why⟩ V S ≤ 32 := by
    unfold placesE
    split
    · omega
    · split <;> omega
  dsimp only at *
  refine ⟨by omega, by omega, fun _ => by omega⟩
/-- What Write tells where it may be told. -/
def WriteP (T V S : Int) (c' : Cdr) (C b : Nat) (most : Int) (bs : List Nat) (base : Nat) (u : Value) (W : World) (e' : Ending) (W' : World) : Prop :=
  e' = .returned (.int .i64 0) ∧ Blk W' C (cdrA T V S c') 74 ∧ ∃ u', WrtO W' b most bs base u' ∧ (u'.ownBlock = u.ownBlock ∨ ∃ g, u'.ownBlock = some g ∧ W.heap.size ≤ g) ∧ Turn (C :: b :: u.ownBlock.toList) W W'
set_option maxRecDepth 100000 in
set_option maxHeartbeats 4000000 in
theorem write_yes (T V S : Int) (c : Cdr) (kind tx at_ v x why : Int) (th : Nat) (C b : Nat) (most : Int) (bs : List Nat) (base : Nat) (u : Value) (W : World) (hok : EvOk ⟨kind, (th : Int), tx, at_, v, x, why⟩) (hC : Blk W C (cdrA T V S c) 74) (hKd : KindsAt W) (hT : 1 ≤ T ∧ T ≤ 6) (hV : 1 ≤ V ∧ V ≤ 32) (hS : 1 ≤ S ∧ S ≤ 32)
    (hc : OkC T c) (ht : tellsC T V S c ⟨kind, (th : Int), tx, at_, v, x, why⟩ = true) (hw : WrtO W b most bs base u) (hCb : C ≠ b) (hCbase : C < base) (hbase : base ≤ W.heap.size) (hl : bs.length ≤ 16777216) (hm : 0 ≤ most ∧ most ≤ 16777216) (hfit : (bs.length : Int) + 12 ≤ most) :
    Calls Tryd.prog 12 #[.pointer (some ⟨C, 0, none⟩), .pointer (some ⟨b, 0, none⟩), evA ⟨kind, (th : Int), tx, at_, v, x, why⟩] W (WriteP T V S (knowsC c ⟨kind, (th : Int), tx, at_, v, x, why⟩) C b most (bs ++ bytesC T c ⟨kind, (th : Int), tx, at_, v, x, why⟩) base u W) := by
  have HTELL := hid (fun W' (h : Below W.heap.size W W') => tells_any T V S c kind tx at_ v x why th C W' hok (hC.below h) (hKd.below h) hT hV hS)
  rw [ht] at HTELL
  have hbe := Blk.new W #[.int .u8 kind, .int .i64 (th : Int), .int .i64 tx, .int .i64 at_, .int .i64 v, .int .i64 x, .int .u8 why] 33
  have HBE := hid hbe
  have f0 := hbe.cell 0 (v := .int .u8 kind) rfl
  have HLOW : Hid (Below W.heap.size W (W.alloc (.cells #[.int .u8 kind, .int .i64 (th : Int), .int .i64 tx, .int .i64 at_, .int .i64 v, .int .i64 x, .int .u8 why] 33))) := hid (ext_alloc (ext_refl _) _)
  have HT := hid ht
  have HCC := hid hC
  have HC0 := hid hc
  have HW := hid hw
  have HM := hid hm
  have HFIT := hid hfit
  have HLL := hid hl
  have HSZ := hid (show C < base ∧ base ≤ W.heap.size ∧ b < base ∧ C ≠ b from ⟨hCbase, hbase, hw.lt, hCb⟩)
  have HOK := hid hok
  have HTV := hid (show (1 ≤ T ∧ T ≤ 6) ∧ (1 ≤ V ∧ V ≤ 32) ∧ (1 ≤ S ∧ S ≤ 32) from ⟨hT, hV, hS⟩)
  dsimp only [evA] at HTELL ⊢
  clear hbe f0 ht hC hc hw hm hfit hl hCbase hbase hCb hok hT hV hS
  obtain ⟨Q, hQ⟩ : ∃ Q, Q = WriteP T V S (knowsC c ⟨kind, (th : Int), tx, at_, v, x, why⟩) C b most (bs ++ bytesC T c ⟨kind, (th : Int), tx, at_, v, x, why⟩) base u W := ⟨_, rfl⟩
  rw [← hQ]
  have HQ := hid hQ
  clear hQ
  go_enter Tryd.func12, Tryd.ntmps12
  go_wp2_with fail
  refine (HTELL.out _ HLOW.out).mono ?_
  rintro e' W2 ⟨rfl, hb2⟩
  have hbe2 := HBE.out.below hb2
  have e0 := hbe2.cell 0 (v := .int .u8 kind) rfl
  have e1 := hbe2.cell 1 (v := .int .i64 (th : Int)) rfl
  have e2 := hbe2.cell 2 (v := .int .i64 tx) rfl
  have e3 := hbe2.cell 3 (v := .int .i64 at_) rfl
  have e4 := hbe2.cell 4 (v := .int .i64 v) rfl
  have e5 := hbe2.cell 5 (v := .int .i64 x) rfl
  have e6 := hbe2.cell 6 (v := .int .u8 why) rfl
  have HBE2 := hid hbe2
  have HB2 := hid (ext_trans HLOW.out hb2)
  have HB2' := hid hb2
  have x0 := cell_alloc (x := .cells #[.string ⟨#[]⟩] 9) e0
  have x1 := cell_alloc (x := .cells #[.string ⟨#[]⟩] 9) e1
  have x2 := cell_alloc (x := .cells #[.string ⟨#[]⟩] 9) e2
  have x3 := cell_alloc (x := .cells #[.string ⟨#[]⟩] 9) e3
  have x4 := cell_alloc (x := .cells #[.string ⟨#[]⟩] 9) e4
  have x5 := cell_alloc (x := .cells #[.string ⟨#[]⟩] 9) e5
  have x6 := cell_alloc (x := .cells #[.string ⟨#[]⟩] 9) e6
  clear e0 e1 e2 e3 e4 e5 e6 hbe2 hb2 HTELL
  obtain ⟨W3, hW3⟩ : ∃ W3, W3 = (W2.alloc (.cells #[.string ⟨#[]⟩] 9)).alloc (.cells (lineA C ⟨kind, (th : Int), tx, at_, v, x, why⟩ .nilFunc .nilFunc (clo 30 #[])) 83) := ⟨_, rfl⟩
  have hL3 : Blk W3 (W2.heap.size + 1) (lineA C ⟨kind, (th : Int), tx, at_, v, x, why⟩ .nilFunc .nilFunc (clo 30 #[])) 83 := by rw [hW3]; exact Blk.new' _ _ _ (by (first | exact Array.size_push _ | exact (Array.size_push _).symm))
  have hS3 : Blk W3 W2.heap.size #[.string ⟨#[]⟩] 9 := by rw [hW3]; exact (Blk.new W2 #[.string ⟨#[]⟩] 9).below (ext_alloc (ext_refl _) _)
  have hB3 : Below W2.heap.size W2 W3 := by rw [hW3]; exact ext_alloc (ext_alloc (ext_refl _) _) _
  have HS3 := hid hS3
  have HB3 := hid hB3
  have HL3 := hid hL3
  have p8 := hL3.cell 8 (v := .nilFunc) rfl
  have z8 := hL3.free 8
  have hL4 := hL3.set 8 (clo 31 #[.pointer (some ⟨W2.heap.size, 0, none⟩)])
  have p9 := hL4.cell 9 (v := .nilFunc) rfl
  have z9 := hL4.free 9
  clear hL3 hS3 hB3 hL4
  unfold lineA at hW3
  unfold clo at hW3 p9 z9
  have HW3 := hid hW3
  clear hW3
  go_wp2_with (rw [← HW3.out]; go_simp)
  clear p8 z8 p9 z9 x0 x1 x2 x3 x4 x5 x6
  obtain ⟨W5, hW5⟩ : ∃ W5, W5 = (W3.setCell ⟨W2.heap.size + 1, 8, none⟩ (clo 31 #[.pointer (some ⟨W2.heap.size, 0, none⟩)])).setCell ⟨W2.heap.size + 1, 9, none⟩ (clo 33 #[.pointer (some ⟨W2.heap.size, 0, none⟩)]) := ⟨_, rfl⟩
  have hL5 : Blk W5 (W2.heap.size + 1) (lineA C ⟨kind, (th : Int), tx, at_, v, x, why⟩ (clo 31 #[.pointer (some ⟨W2.heap.size, 0, none⟩)]) (clo 33 #[.pointer (some ⟨W2.heap.size, 0, none⟩)]) (clo 30 #[])) 83 := by rw [hW5]; exact (HL3.out.set 8 _).set 9 _
  have hS5 : Blk W5 W2.heap.size #[.string ⟨#[]⟩] 9 := by rw [hW5]; exact (HS3.out.set_other _ _ (by show W2.heap.size ≠ W2.heap.size + 1; omega)).set_other _ _ (by show W2.heap.size ≠ W2.heap.size + 1; omega)
  have hB5 : Below W2.heap.size W2 W5 := by rw [hW5]; exact (HB3.out.setCell (p := ⟨W2.heap.size + 1, 8, none⟩) (by show W2.heap.size ≤ W2.heap.size + 1; omega) _).setCell (p := ⟨W2.heap.size + 1, 9, none⟩) (by show W2.heap.size ≤ W2.heap.size + 1; omega) _
  have hW5' := hW5
  unfold clo at hW5'
  rw [← hW5']
  clear hW5 hW5' HW3 HL3 HS3 HB3
  obtain ⟨sb, hsb⟩ : ∃ sb, sb = W2.heap.size := ⟨_, rfl⟩
  have hB25 := ext_trans HB2.out hB5
  have hC5 := HCC.out.below hB25
  have hok2 := HOK.out
  have ht1 := HT.out
  unfold tellsC at ht1
  rw [Bool.and_eq_true] at ht1
  obtain ⟨hm1, hm2⟩ := ht1
  obtain ⟨hs, ⟨k1, k2, hw, t1, t2, xx1, xx2, v1, v2, a1, a2⟩, hbb⟩ := may_sizes' hm1
  obtain ⟨f1, f2, f3, f4⟩ := first_ok (T := T) (k := kind) (th := (th : Int)) (last := c.last) ⟨hs.1, hs.2.1⟩ ⟨k1, k2⟩ ⟨t1, t2⟩ HC0.out.last
  have OV := over_any (wClOk W2.heap.size) T V S c kind tx at_ v x why th [] (W2.heap.size + 1) C W5 hL5 hC5 ⟨⟨#[]⟩, rfl, hS5⟩ (by simp) (by have := HSZ.out; have := HB2.out.size; simp; omega) (by have := HSZ.out; have := HB2.out.size; omega) (by unfold WOk; simp) HTV.out.1 HTV.out.2.1 HTV.out.2.2 ⟨k1, k2⟩ t2 HC0.out.last (by intro k hk; simp at hk; rw [hk]; exact hS5.lt) (by unfold WPx; omega) ⟨f1, f2⟩ (fun t' h1 h2 => by
    dsimp only [wCl] at h1 ⊢
    rw [f3]
    rw [f4] at h1
    have : t' = th := by omega
    subst this
    exact w_meth _ HC0.out HT.out)
  rw [line_write HC0.out HT.out hok2.2.2.2.2.2.1] at OV
  obtain ⟨bl1, bl2⟩ := bytes_len (V := V) (S := S) HC0.out HT.out
  have HBL := hid (show 1 ≤ (bytesC T c ⟨kind, (th : Int), tx, at_, v, x, why⟩).length ∧ (bytesC T c ⟨kind, (th : Int), tx, at_, v, x, why⟩).length ≤ 12 from ⟨bl1, bl2⟩)
  have HAT := hid (w_ats HT.out)
  have HB25 := hid hB25
  have HSL := hid hS5.lt
  have HLS := hid (show W2.heap.size + 1 < W5.heap.size from hL5.lt)
  have HB5 := hid hB5
  have HOV := hid OV
  clear OV hB25 hB5 hL5 hS5 hC5 hok2 hm1 hm2 hs k1 k2 hw t1 t2 xx1 xx2 v1 v2 a1 a2 hbb f1 f2 f3 f4 bl1 bl2 hsb
  refine HOV.out.mono ?_
  rintro e' W6 ⟨rfl, ⟨Z, hZ, hBZ⟩, hT6, -⟩
  clear HOV
  have hB56 : Below W2.heap.size W5 W6 := hT6.below (by intro k hk; simp at hk; omega) (by have := HSL.out; omega)
  have hB6 : Below W.heap.size W W6 := ext_trans HB2.out (HB5.out.trans hB56)
  have hz0 := hBZ.cell 0 (v := .string Z) rfl
  have hZl : Z.size = (bytesC T c ⟨kind, (th : Int), tx, at_, v, x, why⟩).length := by rw [← byt_len, hZ]; rfl
  have RAW := raw_any b most bs base u Z W6 (HW.out.below hB6) (by have := HBL.out; omega) (by have := HBL.out; omega) HLL.out HM.out (by have := HBL.out; have := HFIT.out; omega) (by have := HSZ.out; have := hB6.size; omega)
  have HRAW := hid RAW
  have HZ := hid hZ
  have HB6 := hid hB6
  have HBE6 := hid (HBE2.out.below (ext_trans (Below.refl _ _) (HB5.out.trans hB56)))
  clear RAW hZ hB6 hB56 hT6 hBZ hZl HB5 HSL HLS HB25 HBL HFIT HM HLL HBE2
  go_wp2_with fail
  refine HRAW.out.mono ?_
  rintro e' W7 ⟨rfl, u', hwr, hown, hT7⟩
  have hnw : ∀ k, k < base → k ≠ b → k ∉ b :: u.ownBlock.toList := by
    intro k hk hkb hm
    rcases List.mem_cons.1 hm with e | e
    · exact hkb e
    · have := (HW.out.own.lt k (by simpa using e)).1
      omega
  have hbe7 := hT7.blk (by
    intro hm
    have hs := HSZ.out
    rcases List.mem_cons.1 hm with e | e
    · omega
    · have := (HW.out.own.lt _ (by simpa using e)).2
      omega) HBE6.out
  have e0 := hbe7.cell 0 (v := .int .u8 kind) rfl
  have e1 := hbe7.cell 1 (v := .int .i64 (th : Int)) rfl
  have e2 := hbe7.cell 2 (v := .int .i64 tx) rfl
  have e3 := hbe7.cell 3 (v := .int .i64 at_) rfl
  have e4 := hbe7.cell 4 (v := .int .i64 v) rfl
  have e5 := hbe7.cell 5 (v := .int .i64 x) rfl
  have e6 := hbe7.cell 6 (v := .int .u8 why) rfl
  have hC7 := hT7.blk (hnw C HSZ.out.1 HSZ.out.2.2.2) (HCC.out.below HB6.out)
  have HKN := hid (knows_any T V S c kind tx at_ v x why th at_.toNat C W7 hC7 HAT.out.1 HAT.out.2.1 HAT.out.2.2)
  have HWR := hid hwr
  have HOWN := hid hown
  have HT7 := hid hT7
  clear hnw hC7 hbe7 hwr hown hT7
  go_wp2_with fail
  refine HKN.out.mono ?_
  rintro e' W8 ⟨rfl, hC8, hT8⟩
  go_wp2_with fail
  rw [HQ.out]
  have hZb := HZ.out
  rw [List.nil_append] at hZb
  rw [hZb] at HWR
  have hb78 : W.heap.size ≤ W6.heap.size := HB6.out.size
  refine ⟨rfl, hC8, u', HWR.out.turn hT8 (by have := HSZ.out; simp; omega) (fun g hg => by have := (HWR.out.own.lt g hg).1; have := HSZ.out; simp; omega), ?_, ?_⟩
  · rcases HOWN.out with e | ⟨g, hg, h⟩
    · exact Or.inl e
    · exact Or.inr ⟨g, hg, by omega⟩
  · exact ((Turn.of_below HB6.out).trans (HT7.out.mono (by simp; intro a h; exact Or.inr (Or.inr h)))).trans (hT8.mono (by simp))
end Go.Proofs.YtokkafiphchejaaDoor
/-
  Walk: (*Coder).tells and (*Coder).Write of any event; New.
-/
namespace Go.Proofs.YtokkafiphchejaaDoor
set_option linter.unusedVariables false
set_option linter.unusedSimpArgs false
set_option linter.unusedVariables false
open Go Go.RowKit
set_option maxRecDepth 100000 in
set_option maxHeartbeats 4000000 in
theorem tells_no (T V S : Int) (c : Cdr) (kind th tx at_ v x why : Int) (C : Nat) (W : World) (hok : EvOk ⟨kind, th, tx, at_, v, x, why⟩) (hC : Blk W C (cdrA T V S c) 74) (hKd : KindsAt W) (hm0 : mayE ⟨kind, th, tx, at_, v, x, why⟩ T V S = false) :
    Calls Tryd.prog 29 #[.pointer (some ⟨C, 0, none⟩), evA ⟨kind, th, tx, at_, v, x, why⟩] W fun e' W' => e' = .returned (.bool false) ∧ Below W.heap.size W W' := by
  obtain ⟨WB, hWB⟩ : ∃ WB, WB = W.alloc (.cells #[.int .u8 kind, .int .i64 th, .int .i64 tx, .int .i64 at_, .int .i64 v, .int .i64 x, .int .u8 why] 33) := ⟨_, rfl⟩
  have HLOW : Hid (Below W.heap.size W WB) := hid (by rw [hWB]; exact ext_alloc (ext_refl _) _)
  have HBE : Hid (Blk WB W.heap.size #[.int .u8 kind, .int .i64 th, .int .i64 tx, .int .i64 at_, .int .i64 v, .int .i64 x, .int .u8 why] 33) := hid (by rw [hWB]; exact Blk.new _ _ _)
  have HBC := hid (hC.below HLOW.out)
  obtain ⟨m, hm⟩ : ∃ m, m = mayE ⟨kind, th, tx, at_, v, x, why⟩ T V S := ⟨_, rfl⟩
  have HN := hid (fun W' (h : Below WB.heap.size WB W') => may_any ⟨kind, th, tx, at_, v, x, why⟩ T V S W' hok (hKd.below (ext_trans HLOW.out h)))
  rw [← hm] at HN hm0
  have HM0 := hid hm0
  obtain ⟨mn, hmn⟩ : ∃ mn, (!m) = mn := ⟨_, rfl⟩
  dsimp only [evA] at HN ⊢
  have HWB := hid hWB
  clear hC hKd hm hm0 hWB hok
  go_enter Tryd.func29, Tryd.ntmps29
  go_wp2_with fail
  rw [← HWB.out]
  apply wp_region_knownJ (fun qq => ([.agg #[.int .u8 kind, .int .i64 th, .int .i64 tx, .int .i64 at_, .int .i64 v, .int .i64 x, .int .u8 why], .pointer (some ⟨C, 0, none⟩), .pointer (some ⟨C, 0, none⟩), .pointer (some ⟨C, 0, none⟩), .int .i64 (T), .pointer (some ⟨C, 0, none⟩), .pointer (some ⟨C, 0, none⟩), .pointer (some ⟨C, 1, none⟩), .int .i64 (V), .pointer (some ⟨C, 0, none⟩), .pointer (some ⟨C, 0, none⟩), .pointer (some ⟨C, 2, none⟩), .int .i64 (S), .bool m, .bool mn] : List Value).getD qq undef) (LQ WB [] (fun (_ : Unit) _ => True) () 13)
  focus (simp [putAll, dstOf, Act.put, List.getD]; rfl)
  case hm => kernel_rfl
  case hd => kernel_rfl
  case hb => kernel_rfl
  case hng => kernel_rfl
  case hsz => kernel_rfl
  case hext => exact fun l l' w h H => H.ext (n := 15) (by decide) (fun i hi => h i hi)
  case h0 => exact LQ.start
  case hstep =>
    refine ⟨?_, ?_, ?_, ?_, ?_, ?_, ?_, ?_, ?_, ?_, ?_, ?_, ?_, ?_, ?_,  trivial⟩
    · refine ⟨(fun g b h => by cases h), fun l w' hl hdp hJ hg ρ h1 h2 h3 h4 h5 => ?_⟩
      have HJ := hid hJ
      clear hJ
      have f3 : ρ (.tmp 3) = .pointer (some ⟨W.heap.size, 0, none⟩) := h5 3 (by kernel_rfl)
      have hbe := HJ.out.turn.blk (by simp) HBE.out
      have e0 := hbe.cell 0 (v := .int .u8 (kind)) rfl
      have e1 := hbe.cell 1 (v := .int .i64 (th)) rfl
      have e2 := hbe.cell 2 (v := .int .i64 (tx)) rfl
      have e3 := hbe.cell 3 (v := .int .i64 (at_)) rfl
      have e4 := hbe.cell 4 (v := .int .i64 (v)) rfl
      have e5 := hbe.cell 5 (v := .int .i64 (x)) rfl
      have e6 := hbe.cell 6 (v := .int .u8 (why)) rfl
      clear hbe
      clear h4 h5 hg
      unfold OpY
      go_simp
      first | exact ⟨rfl, HJ.out.put 0 (by decide)⟩ | exact ⟨Or.inr rfl, HJ.out.put 0 (by decide)⟩
    · refine ⟨(fun g b h => by cases h), fun l w' hl hdp hJ hg ρ h1 h2 h3 h4 h5 => ?_⟩
      have HJ := hid hJ
      clear hJ
      have f0 : ρ (.tmp 0) = .pointer (some ⟨C, 0, none⟩) := h5 0 (by kernel_rfl)
      clear h4 h5 hg
      unfold OpY
      go_simp
      first | exact ⟨rfl, HJ.out.put 1 (by decide)⟩ | exact ⟨Or.inr rfl, HJ.out.put 1 (by decide)⟩
    · refine ⟨(fun g b h => by cases h), fun l w' hl hdp hJ hg ρ h1 h2 h3 h4 h5 => ?_⟩
      have HJ := hid hJ
      clear hJ
      have f6 : ρ (.tmp 6) = .pointer (some ⟨C, 0, none⟩) := h4 1 6 (by kernel_rfl) (by kernel_rfl)
      clear h4 h5 hg
      unfold OpY
      go_simp
      first | exact ⟨rfl, HJ.out.put 2 (by decide)⟩ | exact ⟨Or.inr rfl, HJ.out.put 2 (by decide)⟩
    · refine ⟨(fun g b h => by cases h), fun l w' hl hdp hJ hg ρ h1 h2 h3 h4 h5 => ?_⟩
      have HJ := hid hJ
      clear hJ
      have f7 : ρ (.tmp 7) = .pointer (some ⟨C, 0, none⟩) := h4 2 7 (by kernel_rfl) (by kernel_rfl)
      clear h4 h5 hg
      unfold OpY
      go_simp
      first | exact ⟨rfl, HJ.out.put 3 (by decide)⟩ | exact ⟨Or.inr rfl, HJ.out.put 3 (by decide)⟩
    · refine ⟨(fun g b h => by cases h), fun l w' hl hdp hJ hg ρ h1 h2 h3 h4 h5 => ?_⟩
      have HJ := hid hJ
      clear hJ
      have f8 : ρ (.tmp 8) = .pointer (some ⟨C, 0, none⟩) := h4 3 8 (by kernel_rfl) (by kernel_rfl)
      have c : w'.cell? ⟨C, 0, none⟩ = some (.int .i64 (T)) := (HJ.out.turn.blk (by simp) HBC.out).cell 0 rfl
      clear h4 h5 hg
      unfold OpY
      go_simp
      first | exact ⟨rfl, HJ.out.put 4 (by decide)⟩ | exact ⟨Or.inr rfl, HJ.out.put 4 (by decide)⟩
    · refine ⟨(fun g b h => by cases h), fun l w' hl hdp hJ hg ρ h1 h2 h3 h4 h5 => ?_⟩
      have HJ := hid hJ
      clear hJ
      have f0 : ρ (.tmp 0) = .pointer (some ⟨C, 0, none⟩) := h5 0 (by kernel_rfl)
      clear h4 h5 hg
      unfold OpY
      go_simp
      first | exact ⟨rfl, HJ.out.put 5 (by decide)⟩ | exact ⟨Or.inr rfl, HJ.out.put 5 (by decide)⟩
    · refine ⟨(fun g b h => by cases h), fun l w' hl hdp hJ hg ρ h1 h2 h3 h4 h5 => ?_⟩
      have HJ := hid hJ
      clear hJ
      have f10 : ρ (.tmp 10) = .pointer (some ⟨C, 0, none⟩) := h4 5 10 (by kernel_rfl) (by kernel_rfl)
      clear h4 h5 hg
      unfold OpY
      go_simp
      first | exact ⟨rfl, HJ.out.put 6 (by decide)⟩ | exact ⟨Or.inr rfl, HJ.out.put 6 (by decide)⟩
    · refine ⟨(fun g b h => by cases h), fun l w' hl hdp hJ hg ρ h1 h2 h3 h4 h5 => ?_⟩
      have HJ := hid hJ
      clear hJ
      have f11 : ρ (.tmp 11) = .pointer (some ⟨C, 0, none⟩) := h4 6 11 (by kernel_rfl) (by kernel_rfl)
      clear h4 h5 hg
      unfold OpY
      go_simp
      first | exact ⟨rfl, HJ.out.put 7 (by decide)⟩ | exact ⟨Or.inr rfl, HJ.out.put 7 (by decide)⟩
    · refine ⟨(fun g b h => by cases h), fun l w' hl hdp hJ hg ρ h1 h2 h3 h4 h5 => ?_⟩
      have HJ := hid hJ
      clear hJ
      have f12 : ρ (.tmp 12) = .pointer (some ⟨C, 1, none⟩) := h4 7 12 (by kernel_rfl) (by kernel_rfl)
      have c : w'.cell? ⟨C, 1, none⟩ = some (.int .i64 (V)) := (HJ.out.turn.blk (by simp) HBC.out).cell 1 rfl
      clear h4 h5 hg
      unfold OpY
      go_simp
      first | exact ⟨rfl, HJ.out.put 8 (by decide)⟩ | exact ⟨Or.inr rfl, HJ.out.put 8 (by decide)⟩
    · refine ⟨(fun g b h => by cases h), fun l w' hl hdp hJ hg ρ h1 h2 h3 h4 h5 => ?_⟩
      have HJ := hid hJ
      clear hJ
      have f0 : ρ (.tmp 0) = .pointer (some ⟨C, 0, none⟩) := h5 0 (by kernel_rfl)
      clear h4 h5 hg
      unfold OpY
      go_simp
      first | exact ⟨rfl, HJ.out.put 9 (by decide)⟩ | exact ⟨Or.inr rfl, HJ.out.put 9 (by decide)⟩
    · refine ⟨(fun g b h => by cases h), fun l w' hl hdp hJ hg ρ h1 h2 h3 h4 h5 => ?_⟩
      have HJ := hid hJ
      clear hJ
      have f14 : ρ (.tmp 14) = .pointer (some ⟨C, 0, none⟩) := h4 9 14 (by kernel_rfl) (by kernel_rfl)
      clear h4 h5 hg
      unfold OpY
      go_simp
      first | exact ⟨rfl, HJ.out.put 10 (by decide)⟩ | exact ⟨Or.inr rfl, HJ.out.put 10 (by decide)⟩
    · refine ⟨(fun g b h => by cases h), fun l w' hl hdp hJ hg ρ h1 h2 h3 h4 h5 => ?_⟩
      have HJ := hid hJ
      clear hJ
      have f15 : ρ (.tmp 15) = .pointer (some ⟨C, 0, none⟩) := h4 10 15 (by kernel_rfl) (by kernel_rfl)
      clear h4 h5 hg
      unfold OpY
      go_simp
      first | exact ⟨rfl, HJ.out.put 11 (by decide)⟩ | exact ⟨Or.inr rfl, HJ.out.put 11 (by decide)⟩
    · refine ⟨(fun g b h => by cases h), fun l w' hl hdp hJ hg ρ h1 h2 h3 h4 h5 => ?_⟩
      have HJ := hid hJ
      clear hJ
      have f16 : ρ (.tmp 16) = .pointer (some ⟨C, 2, none⟩) := h4 11 16 (by kernel_rfl) (by kernel_rfl)
      have c : w'.cell? ⟨C, 2, none⟩ = some (.int .i64 (S)) := (HJ.out.turn.blk (by simp) HBC.out).cell 2 rfl
      clear h4 h5 hg
      unfold OpY
      go_simp
      first | exact ⟨rfl, HJ.out.put 12 (by decide)⟩ | exact ⟨Or.inr rfl, HJ.out.put 12 (by decide)⟩
    · refine ⟨(fun g b h => by cases h), fun l w' hl hdp hJ hg ρ h1 h2 h3 h4 h5 => ?_⟩
      have HJ := hid hJ
      clear hJ
      have f5 : ρ (.tmp 5) = .agg #[.int .u8 kind, .int .i64 th, .int .i64 tx, .int .i64 at_, .int .i64 v, .int .i64 x, .int .u8 why] := h4 0 5 (by kernel_rfl) (by kernel_rfl)
      have f9 : ρ (.tmp 9) = .int .i64 (T) := h4 4 9 (by kernel_rfl) (by kernel_rfl)
      have f13 : ρ (.tmp 13) = .int .i64 (V) := h4 8 13 (by kernel_rfl) (by kernel_rfl)
      have f17 : ρ (.tmp 17) = .int .i64 (S) := h4 12 17 (by kernel_rfl) (by kernel_rfl)
      clear h4 h5 hg
      unfold OpY
      go_simp
      unfold OpR
      have h0 := HJ.out.pre hl
      subst h0
      refine (HN.out _ (ext_drew (ext_refl _))).mono ?_
      rintro e' w'' ⟨rfl, hb'⟩
      first | exact ⟨_, rfl, rfl, LQ.call trivial (Turn.of_below hb')⟩ | exact ⟨_, rfl, Or.inr rfl, LQ.call trivial (Turn.of_below hb')⟩
    · refine ⟨(fun g b h => by cases h), fun l w' hl hdp hJ hg ρ h1 h2 h3 h4 h5 => ?_⟩
      have HJ := hid hJ
      clear hJ
      have f18 : ρ (.tmp 18) = .bool m := h4 13 18 (by kernel_rfl) (by kernel_rfl)
      clear h4 h5 hg
      unfold OpY
      go_simp
      first | exact ⟨rfl, HJ.out.put 14 (by decide)⟩ | exact ⟨Or.inr rfl, HJ.out.put 14 (by decide)⟩
  case hdone =>
    intro W1 hJ
    have HF := hid (hJ.mid rfl)
    clear hJ
    have hlow1 : Below W.heap.size W W1 := HLOW.out.trans (HF.out.2.below (by simp) (HLOW.out.size))
    have HLOW1 := hid hlow1
    clear hlow1 HF HN HBE HBC HLOW HWB
    have hm1 := HM0.out
    subst hm1
    obtain rfl : mn = true := by simpa using hmn.symm
    clear hmn
    go_wp2_with fail
    go_ret
    exact ⟨rfl, HLOW1.out⟩
theorem tells_all (T V S : Int) (c : Cdr) (e : Ev) (C : Nat) (W : World) (hok : EvOk e) (hC : Blk W C (cdrA T V S c) 74) (hKd : KindsAt W) (hT : 1 ≤ T ∧ T ≤ 6) (hV : 1 ≤ V ∧ V ≤ 32) (hS : 1 ≤ S ∧ S ≤ 32) :
    Calls Tryd.prog 29 #[.pointer (some ⟨C, 0, none⟩), evA e] W fun e' W' => e' = .returned (.bool (tellsC T V S c e)) ∧ Below W.heap.size W W' := by
  cases hm : mayE e T V S with
  | false =>
    have : tellsC T V S c e = false := by unfold tellsC; rw [hm]; rfl
    rw [this]
    exact tells_no T V S c _ _ _ _ _ _ _ C W hok hC hKd hm
  | true =>
    obtain ⟨hs, ⟨k1, k2, hw, t1, t2, -⟩, -⟩ := may_sizes' hm
    obtain ⟨kind, th, tx, at_, v, x, why⟩ := e
    dsimp only at *
    obtain ⟨n, rfl⟩ := Int.eq_ofNat_of_zero_le t1
    exact tells_any T V S c kind tx at_ v x why n C W hok hC hKd hT hV hS
set_option maxRecDepth 100000 in
set_option maxHeartbeats 4000000 in
theorem write_no (T V S : Int) (c : Cdr) (e : Ev) (C b : Nat) (W : World) (hok : EvOk e) (hC : Blk W C (cdrA T V S c) 74) (hKd : KindsAt W) (hT : 1 ≤ T ∧ T ≤ 6) (hV : 1 ≤ V ∧ V ≤ 32) (hS : 1 ≤ S ∧ S ≤ 32)
    (ht : tellsC T V S c e = false) :
    Calls Tryd.prog 12 #[.pointer (some ⟨C, 0, none⟩), .pointer (some ⟨b, 0, none⟩), evA e] W fun e' W' => e' = .returned (.int .i64 4) ∧ Below W.heap.size W W' := by
  have HTELL := hid (fun W' (h : Below W.heap.size W W') => tells_all T V S c e C W' hok (hC.below h) (hKd.below h) hT hV hS)
  rw [ht] at HTELL
  obtain ⟨kind, th, tx, at_, v, x, why⟩ := e
  have hbe := Blk.new W #[.int .u8 kind, .int .i64 th, .int .i64 tx, .int .i64 at_, .int .i64 v, .int .i64 x, .int .u8 why] 33
  have f0 := hbe.cell 0 (v := .int .u8 kind) rfl
  have HLOW : Hid (Below W.heap.size W (W.alloc (.cells #[.int .u8 kind, .int .i64 th, .int .i64 tx, .int .i64 at_, .int .i64 v, .int .i64 x, .int .u8 why] 33))) := hid (ext_alloc (ext_refl _) _)
  dsimp only [evA] at HTELL ⊢
  clear hbe f0 ht hC hok hT hV hS
  go_enter Tryd.func12, Tryd.ntmps12
  go_wp2_with fail
  refine (HTELL.out _ HLOW.out).mono ?_
  rintro e' W2 ⟨rfl, hb2⟩
  go_wp2_with fail
  all_goals (try go_ret)
  exact ⟨rfl, ext_trans HLOW.out hb2⟩
theorem may_wait (T V S : Int) : mayE ⟨12, 0, 0, 0, 0, 0, 0⟩ T V S = sizesB T V S := by
  unfold mayE
  cases h : sizesB T V S with
  | false => rfl
  | true =>
    unfold sizesB at h
    simp at h
    simp [leastV, placesE, bareE]
    omega
set_option maxRecDepth 100000 in
set_option maxHeartbeats 4000000 in
theorem new_any (T V S : Int) (W : World) (hKd : KindsAt W) (hok : sizesB T V S = true) :
    Calls Tryd.prog 10 #[.int .i64 T, .int .i64 V, .int .i64 S] W fun e' W' => ∃ C, e' = .returned (.tuple #[.pointer (some ⟨C, 0, none⟩), .int .i64 0]) ∧ W.heap.size ≤ C ∧ Blk W' C (cdrA T V S newC) 74 ∧ Below W.heap.size W W' := by
  have HMAY := hid (fun W' (h : Below W.heap.size W W') => may_any ⟨12, 0, 0, 0, 0, 0, 0⟩ T V S W' (by unfold EvOk; dsimp only; omega) (hKd.below h))
  rw [may_wait, hok] at HMAY
  dsimp only [evA] at HMAY
  clear hok
  obtain ⟨Q, hQ⟩ : ∃ Q : Ending → World → Prop, Q = fun e' W' => ∃ C, e' = .returned (.tuple #[.pointer (some ⟨C, 0, none⟩), .int .i64 0]) ∧ W.heap.size ≤ C ∧ Blk W' C (cdrA T V S newC) 74 ∧ Below W.heap.size W W' := ⟨_, rfl⟩
  rw [← hQ]
  have HQ := hid hQ
  clear hQ
  go_enter Tryd.func10, Tryd.ntmps10
  go_wp2_with fail
  refine (HMAY.out W (Below.refl _ _)).mono ?_
  rintro e' W1 ⟨rfl, hb1⟩
  have HB1 := hid hb1
  clear hb1
  go_wp2_with fail
  rw [HQ.out]
  exact ⟨W1.heap.size, rfl, HB1.out.size, Blk.new _ _ _, ext_alloc HB1.out _⟩
set_option maxRecDepth 100000 in
set_option maxHeartbeats 4000000 in
theorem new_bad' (T V S : Int) (W : World) (hKd : KindsAt W) (hok : sizesB T V S = false) :
    Calls Tryd.prog 10 #[.int .i64 T, .int .i64 V, .int .i64 S] W fun e' W' => e' = .returned (.tuple #[.pointer none, .int .i64 1]) ∧ Below W.heap.size W W' := by
  have HMAY := hid (fun W' (h : Below W.heap.size W W') => may_any ⟨12, 0, 0, 0, 0, 0, 0⟩ T V S W' (by unfold EvOk; dsimp only; omega) (hKd.below h))
  rw [may_wait, hok] at HMAY
  dsimp only [evA] at HMAY
  clear hok
  obtain ⟨Q, hQ⟩ : ∃ Q : Ending → World → Prop, Q = fun e' W' => e' = .returned (.tuple #[.pointer none, .int .i64 1]) ∧ Below W.heap.size W W' := ⟨_, rfl⟩
  rw [← hQ]
  have HQ := hid hQ
  clear hQ
  go_enter Tryd.func10, Tryd.ntmps10
  go_wp2_with fail
  refine (HMAY.out W (Below.refl _ _)).mono ?_
  rintro e' W1 ⟨rfl, hb1⟩
  go_wp2_with fail
  rw [HQ.out]
  exact ⟨rfl, hb1⟩
end Go.Proofs.YtokkafiphchejaaDoor
/-
  Walk: awake.
-/
namespace Go.Proofs.YtokkafiphchejaaDoor
set_option linter.unusedVariables false
set_option linter.unusedSimpArgs false
set_option linter.unusedVariables false
open Go Go.RowKit
theorem write_is {T V S : Int} {c : Cdr} {e : Ev} (C b : Nat) (most : Int) (bs : List Nat) (base : Nat) (u : Value) (W : World) (hok : EvOk e) (hC : Blk W C (cdrA T V S c) 74) (hKd : KindsAt W) (hT : 1 ≤ T ∧ T ≤ 6) (hV : 1 ≤ V ∧ V ≤ 32) (hS : 1 ≤ S ∧ S ≤ 32)
    (hc : OkC T c) (ht : tellsC T V S c e = true) (hw : WrtO W b most bs base u) (hCb : C ≠ b) (hCbase : C < base) (hbase : base ≤ W.heap.size) (hl : bs.length ≤ 16777216) (hm : 0 ≤ most ∧ most ≤ 16777216) (hfit : (bs.length : Int) + 12 ≤ most) :
    Calls Tryd.prog 12 #[.pointer (some ⟨C, 0, none⟩), .pointer (some ⟨b, 0, none⟩), evA e] W (WriteP T V S (knowsC c e) C b most (bs ++ bytesC T c e) base u W) := by
  have ht' := ht
  unfold tellsC at ht'
  rw [Bool.and_eq_true] at ht'
  obtain ⟨hs, ⟨k1, k2, hw', t1, t2, -⟩, -⟩ := may_sizes' ht'.1
  obtain ⟨kind, th, tx, at_, v, x, why⟩ := e
  dsimp only at t1
  obtain ⟨n, rfl⟩ := Int.eq_ofNat_of_zero_le t1
  exact write_yes T V S c kind tx at_ v x why n C b most bs base u W hok hC hKd hT hV hS hc ht hw hCb hCbase hbase hl hm hfit
theorem WrtO.new {W : World} {b : Nat} {m : Int} (h : Blk W b #[.int .i64 m, .slice none 0 0] 77) : WrtO W b m [] (b + 1) (.slice none 0 0) :=
  ⟨h, World.ownsRow_nil _ _ _ _, by omega⟩
/-- A coder and a writer, as Write finds them. -/
structure Wd (T V S : Int) (c : Cdr) (C b : Nat) (most : Int) (bs : List Nat) (base : Nat) (u : Value) (W : World) : Prop where
  co : Blk W C (cdrA T V S c) 74
  wr : WrtO W b most bs base u
  ok : OkC T c
  sz : (1 ≤ T ∧ T ≤ 6) ∧ (1 ≤ V ∧ V ≤ 32) ∧ (1 ≤ S ∧ S ≤ 32)
  ne : C ≠ b
  lt : C < base
  le : base ≤ W.heap.size
  mo : 0 ≤ most ∧ most ≤ 16777216
theorem Wd.turn {T V S : Int} {c : Cdr} {C b : Nat} {most : Int} {bs : List Nat} {base : Nat} {u : Value} {l : List Nat} {W W' : World} (h : Wd T V S c C b most bs base u W) (ht : Turn l W W') (h1 : C ∉ l) (h2 : b ∉ l) (h3 : ∀ g, u.ownBlock = some g → g ∉ l) : Wd T V S c C b most bs base u W' :=
  ⟨ht.blk h1 h.co, h.wr.turn ht h2 h3, h.ok, h.sz, h.ne, h.lt, Nat.le_trans h.le ht.size, h.mo⟩
theorem Wd.below {T V S : Int} {c : Cdr} {C b : Nat} {most : Int} {bs : List Nat} {base : Nat} {u : Value} {W W' : World} (h : Wd T V S c C b most bs base u W) (hb : Below W.heap.size W W') : Wd T V S c C b most bs base u W' :=
  h.turn (Turn.of_below (l := []) hb) (by simp) (by simp) (by simp)
/-- Blocks ahead of a bound have not turned, but for a few. -/
theorem Wd.low {T V S : Int} {c : Cdr} {C b : Nat} {most : Int} {bs : List Nat} {base : Nat} {u : Value} {W W' : World} (h : Wd T V S c C b most bs base u W) (ht : Turn (C :: b :: u.ownBlock.toList) W W') {B : Nat} (h1 : B ≤ C) (h2 : B ≤ b) : Below B W W' := by
  refine ht.below (fun x hx => ?_) (by have := h.co.lt; omega)
  rcases List.mem_cons.1 hx with e | hx
  · omega
  rcases List.mem_cons.1 hx with e | hx
  · omega
  have := (h.wr.own.lt x (by simpa using hx)).1
  have := h.lt
  omega
def WrYes (T V S : Int) (c : Cdr) (e : Ev) (C b : Nat) (most : Int) (bs : List Nat) (base : Nat) (u : Value) (W : World) (e' : Ending) (W' : World) : Prop :=
  e' = .returned (.int .i64 0) ∧ ∃ u', Wd T V S (knowsC c e) C b most (bs ++ bytesC T c e) base u' W' ∧ (u'.ownBlock = u.ownBlock ∨ ∃ g, u'.ownBlock = some g ∧ W.heap.size ≤ g) ∧ Turn (C :: b :: u.ownBlock.toList) W W'
theorem wr_yes {T V S : Int} {c : Cdr} {C b : Nat} {most : Int} {bs : List Nat} {base : Nat} {u : Value} {W : World} (h : Wd T V S c C b most bs base u W) (hKd : KindsAt W) {e : Ev} (hok : EvOk e) (ht : tellsC T V S c e = true) (hl : bs.length ≤ 16777216) (hfit : (bs.length : Int) + 12 ≤ most) :
    Calls Tryd.prog 12 #[.pointer (some ⟨C, 0, none⟩), .pointer (some ⟨b, 0, none⟩), evA e] W (WrYes T V S c e C b most bs base u W) := by
  refine (write_is C b most bs base u W hok h.co hKd h.sz.1 h.sz.2.1 h.sz.2.2 h.ok ht h.wr h.ne h.lt h.le hl h.mo hfit).mono fun e' W' hh => ?_
  obtain ⟨r, hc, u', hw, hu, hT⟩ := hh
  exact ⟨r, u', ⟨hc, hw, okC_knows h.ok ht hok.2.2.2.2.2.1, h.sz, h.ne, h.lt, Nat.le_trans h.le hT.size, h.mo⟩, hu, hT⟩
theorem wr_no {T V S : Int} {c : Cdr} {C b : Nat} {most : Int} {bs : List Nat} {base : Nat} {u : Value} {W : World} (h : Wd T V S c C b most bs base u W) (hKd : KindsAt W) {e : Ev} (hok : EvOk e) (ht : tellsC T V S c e = false) :
    Calls Tryd.prog 12 #[.pointer (some ⟨C, 0, none⟩), .pointer (some ⟨b, 0, none⟩), evA e] W fun e' W' => e' = .returned (.int .i64 4) ∧ Below W.heap.size W W' :=
  write_no T V S c e C b W hok h.co hKd h.sz.1 h.sz.2.1 h.sz.2.2 ht
set_option maxRecDepth 100000 in
set_option maxHeartbeats 4000000 in
theorem awake_any (W : World) (hKd : KindsAt W) : Calls Tryd.prog 9 #[] W fun e' W' => e' = .returned (.bool true) ∧ Below W.heap.size W W' := by
  have HN := hid (new_any 2 3 2 W hKd (by decide))
  have HK := hid hKd
  clear hKd
  obtain ⟨Q, hQ⟩ : ∃ Q : Ending → World → Prop, Q = fun e' W' => e' = .returned (.bool true) ∧ Below W.heap.size W W' := ⟨_, rfl⟩
  rw [← hQ]
  have HQ := hid hQ
  clear hQ
  go_enter Tryd.func9, Tryd.ntmps9
  go_wp2_with fail
  refine HN.out.mono ?_
  rintro e' W1 ⟨C, rfl, hC0, hC, hb1⟩
  have HC := hid hC
  have HC0 := hid hC0
  have HB1 := hid hb1
  clear hC hC0 hb1
  go_wp2_with fail
  refine (newWriter_any 100 W1 ⟨by omega, by omega⟩).mono ?_
  rintro e' W2 ⟨rfl, hw2, hb2⟩
  have hb02 := ext_trans HB1.out hb2
  have D0 : Wd 2 3 2 newC C W1.heap.size 100 [] (W1.heap.size + 1) (.slice none 0 0) W2 := ⟨HC.out.below hb2, WrtO.new hw2, okC_new (by omega), ⟨⟨by omega, by omega⟩, ⟨by omega, by omega⟩, ⟨by omega, by omega⟩⟩, by have := HC.out.lt; omega, by have := HC.out.lt; omega, hw2.lt, ⟨by omega, by omega⟩⟩
  have hb0 := HB1.out.size
  obtain ⟨b, hb⟩ : ∃ b, b = W1.heap.size := ⟨_, rfl⟩
  rw [← hb] at D0 hb0 ⊢
  clear hb hw2 hb2
  have HB0 := hid hb0
  have HD0 := hid D0
  have HB02 := hid hb02
  clear D0 hb0 hb02
  have HW1 := hid (wr_yes HD0.out (HK.out.below HB02.out) (e := ⟨1, 1, 0, 0, 5, 0, 0⟩) (by unfold EvOk; dsimp only; omega) rfl (by simp) (by simp))
  dsimp only [evA] at HW1
  go_wp2_with fail
  refine HW1.out.mono ?_
  rintro e' W3 ⟨rfl, u1, hd, -, hT⟩
  have hb3 := HB02.out.trans (HD0.out.low hT HC0.out HB0.out)
  have HD1 := hid hd
  have HB03 := hid hb3
  clear hd hT hb3
  have HW2 := hid (wr_yes HD1.out (HK.out.below HB03.out) (e := ⟨2, 1, 0, 1, 3, 0, 0⟩) (by unfold EvOk; dsimp only; omega) rfl (by decide) (by decide))
  dsimp only [evA] at HW2
  go_wp2_with fail
  refine HW2.out.mono ?_
  rintro e' W4 ⟨rfl, u2, hd, -, hT⟩
  have hb4 := HB03.out.trans (HD1.out.low hT HC0.out HB0.out)
  have HD2 := hid hd
  have HB04 := hid hb4
  clear hd hT hb4
  have HW3 := hid (wr_yes HD2.out (HK.out.below HB04.out) (e := ⟨3, 1, 0, 1, 0, -4, 0⟩) (by unfold EvOk; dsimp only; omega) rfl (by decide) (by decide))
  dsimp only [evA] at HW3
  go_wp2_with fail
  refine HW3.out.mono ?_
  rintro e' W5 ⟨rfl, u3, hd, -, hT⟩
  have hb5 := HB04.out.trans (HD2.out.low hT HC0.out HB0.out)
  have HD3 := hid hd
  have HB05 := hid hb5
  clear hd hT hb5
  have HTX := hid (wText_any b 100 _ W5 HD3.out.wr.wrt (by decide))
  go_wp2_with fail
  refine HTX.out.mono ?_
  rintro e' W6 ⟨rfl, rfl⟩
  go_wp2_with fail
  rw [HQ.out]
  exact ⟨by kernel_rfl, HB05.out⟩
end Go.Proofs.YtokkafiphchejaaDoor
/-
  Walk: DeltaSmall.
-/
namespace Go.Proofs.YtokkafiphchejaaDoor
set_option linter.unusedVariables false
set_option linter.unusedSimpArgs false
set_option linter.unusedVariables false
open Go Go.RowKit
/-- Events in memory, one behind the other. -/
def EvsAt (w : World) (a : Option Addr) (l : List Ev) : Prop :=
  (∀ e ∈ l, EvOk e) ∧ (l ≠ [] → ∃ b o, a = some ⟨b, o, none⟩ ∧ ∀ k (h : k < l.length) j v, (evL l[k])[j]? = some v → w.cell? ⟨b, o + k * 7 + j, none⟩ = some v)
theorem EvsAt.below {w w' : World} {a : Option Addr} {l : List Ev} (hb : Below w.heap.size w w') (h : EvsAt w a l) : EvsAt w' a l :=
  ⟨h.1, fun hn => by
    obtain ⟨b, o, h1, h2⟩ := h.2 hn
    exact ⟨b, o, h1, fun k hk j v hv => later hb (h2 k hk j v hv)⟩⟩
theorem mayLoad {t a x : Int} (ht : 0 ≤ t ∧ t < 6) (ha : 0 ≤ a ∧ a < 32) (c : Cdr) : tellsC 6 32 32 c ⟨3, t, 0, a, 0, x, 0⟩ = true := by
  simp [tellsC, mayE, sizesB, leastV, placesE, bareE]
  omega
theorem mayFree {t a : Int} (ht : 0 ≤ t ∧ t < 6) (ha : 0 ≤ a ∧ a < 32) (c : Cdr) : tellsC 6 32 32 c ⟨9, t, 0, a, 0, 0, 0⟩ = true := by
  simp [tellsC, mayE, sizesB, leastV, placesE, bareE]
  omega
theorem u64_rem (x m : Int) : (IntKind.u64.wrap x).tmod m = x % 18446744073709551616 % m := by
  have : IntKind.u64.wrap x = x % 18446744073709551616 := by simp [IntKind.wrap, IntKind.bits, IntKind.signed]
  rw [this, Int.tmod_eq_emod_of_nonneg (by omega)]
theorem knows_load (c : Cdr) (t a x : Int) : (knowsC c ⟨3, t, 0, a, 0, x, 0⟩).last = t ∧ (knowsC c ⟨3, t, 0, a, 0, x, 0⟩).x a = x := by
  simp [knowsC, upd]
set_option maxRecDepth 100000 in
set_option maxHeartbeats 4000000 in
theorem small_great (a : Option Addr) (n cap : Nat) (x y : Int) (W : World) (hKd : KindsAt W) (hn : 400 < n) : Calls Tryd.prog 3 #[.slice a n cap, .int .i64 x, .int .i64 y] W fun e' W' => e' = .returned (.bool true) ∧ Below W.heap.size W W' := by
  have HAW := hid (awake_any W hKd)
  have g1 : decide ((400 : Int) < (n : Int)) = true := by rw [decide_eq_true_iff]; omega
  have g2 : decide (400 < n) = true := by rw [decide_eq_true_iff]; omega
  clear hn hKd
  obtain ⟨Q, hQ⟩ : ∃ Q : Ending → World → Prop, Q = fun e' W' => e' = .returned (.bool true) ∧ Below W.heap.size W W' := ⟨_, rfl⟩
  rw [← hQ]
  have HQ := hid hQ
  clear hQ
  go_enter Tryd.func3, Tryd.ntmps3
  go_wp2_with fail
  refine HAW.out.mono ?_
  rintro e' W1 ⟨rfl, hb1⟩
  go_wp2_with fail
  rw [HQ.out]
  exact ⟨rfl, hb1⟩
set_option maxRecDepth 100000 in
set_option maxHeartbeats 2000000 in
theorem small_any (a : Option Addr) (l : List Ev) (cap : Nat) (x y : Int) (W : World) (hE : EvsAt W a l) (hKd : KindsAt W) (hl : l.length ≤ 400) (hx : -9223372036854775808 ≤ x ∧ x ≤ 9223372036854775807) (hy : -9223372036854775808 ≤ y ∧ y ≤ 9223372036854775807) :
    Calls Tryd.prog 3 #[.slice a l.length cap, .int .i64 x, .int .i64 y] W fun e' W' => e' = .returned (.bool true) ∧ Below W.heap.size W W' := by
  have HAW := hid (awake_any W hKd)
  have g1 : decide ((400 : Int) < (l.length : Int)) = false := by rw [decide_eq_false_iff_not]; omega
  have HE := hid hE
  have HK := hid hKd
  have HL := hid hl
  have HX := hid hx
  have HY := hid hy
  clear hE hKd hl hx hy
  obtain ⟨Q, hQ⟩ : ∃ Q : Ending → World → Prop, Q = fun e' W' => e' = .returned (.bool true) ∧ Below W.heap.size W W' := ⟨_, rfl⟩
  rw [← hQ]
  have HQ := hid hQ
  clear hQ
  go_enter Tryd.func3, Tryd.ntmps3
  go_wp2_with fail
  refine HAW.out.mono ?_
  rintro e' W0 ⟨rfl, hb0⟩
  have HB0 := hid hb0
  have HN := hid (new_any 6 32 32 W0 (HK.out.below hb0) (by decide))
  clear hb0 HAW
  go_wp2_with fail
  refine HN.out.mono ?_
  rintro e' W1 ⟨C, rfl, hC0, hC, hb1⟩
  have HC := hid hC
  have HC0 := hid (Nat.le_trans HB0.out.size hC0)
  have HB1 := hid (ext_trans HB0.out hb1)
  clear hC hC0 hb1 HN
  go_wp2_with fail
  refine (newWriter_any 16777216 W1 ⟨by omega, by omega⟩).mono ?_
  rintro e' W2 ⟨rfl, hw2, hb2⟩
  have hb02 := ext_trans HB1.out hb2
  have D0 : Wd 6 32 32 newC C W1.heap.size 16777216 [] (W1.heap.size + 1) (.slice none 0 0) W2 := ⟨HC.out.below hb2, WrtO.new hw2, okC_new (by omega), ⟨⟨by omega, by omega⟩, ⟨by omega, by omega⟩, ⟨by omega, by omega⟩⟩, by have := HC.out.lt; omega, by have := HC.out.lt; omega, hw2.lt, ⟨by omega, by omega⟩⟩
  have hb0 := HB1.out.size
  obtain ⟨b, hb⟩ : ∃ b, b = W1.heap.size := ⟨_, rfl⟩
  rw [← hb] at D0 hb0 ⊢
  clear hb hw2 hb2
  have HB0' := hid hb0
  have HD0 := hid D0
  have HB02 := hid hb02
  clear D0 hb0 hb02 HB1 HB0 HC
  go_wp2_with fail
  go_loopw [11] (fun i wr => ∃ (k : Nat) (c : Cdr) (bs : List Nat) (u : Value), k ≤ l.length ∧ i = .int .i64 (k : Int) ∧ Hid (Wd 6 32 32 c C b 16777216 bs (b + 1) u wr) ∧ Hid (bs.length ≤ 12 * k) ∧ Hid (Below W.heap.size W wr)) (fun i _ => l.length - (intOf i).toNat)
  case atStart => exact ⟨0, _, _, _, Nat.zero_le _, rfl, HD0, hid (by simp), HB02⟩
  case round =>
    obtain ⟨k, c, bs, u, hkl, rfl, HD, HBS, HBR⟩ := hrel
    have HKL := hid hkl
    by_cases hlt : k < l.length
    · have j1 : decide ((k : Int) < (l.length : Int)) = true := by rw [decide_eq_true_iff]; omega
      have j2 : (0 : Int) ≤ (k : Int) := by omega
      have j3 : IntKind.i64.wrap ((k : Int) + 1) = (k : Int) + 1 := IntWalk.i64_in _ (by have := HL.out; omega)
      have j4 : decide (k < l.length) = true := by rw [decide_eq_true_iff]; omega
      obtain ⟨b', o, rfl, hcell⟩ := HE.out.2 (by intro h; rw [h] at hlt; simp at hlt)
      have HOK := hid (HE.out.1 l[k] (List.getElem_mem hlt))
      rcases hek : l[k] with ⟨kind, th, tx, at_, v, x', why⟩
      have e0 := later HBR.out (hcell k hlt 0 (.int .u8 kind) (by rw [hek]; rfl))
      have e1 := later HBR.out (hcell k hlt 1 (.int .i64 th) (by rw [hek]; rfl))
      have e2 := later HBR.out (hcell k hlt 2 (.int .i64 tx) (by rw [hek]; rfl))
      have e3 := later HBR.out (hcell k hlt 3 (.int .i64 at_) (by rw [hek]; rfl))
      have e4 := later HBR.out (hcell k hlt 4 (.int .i64 v) (by rw [hek]; rfl))
      have e5 := later HBR.out (hcell k hlt 5 (.int .i64 x') (by rw [hek]; rfl))
      have e6 := later HBR.out (hcell k hlt 6 (.int .u8 why) (by rw [hek]; rfl))
      rw [Nat.add_zero] at e0
      rw [hek] at HOK
      have HLT := hid hlt
      clear hcell hek hlt hkl
      go_wp2_with fail
      have hkd := HK.out.below HBR.out
      cases ht : tellsC 6 32 32 c ⟨kind, th, tx, at_, v, x', why⟩ with
      | true =>
        refine (wr_yes HD.out hkd HOK.out ht (by have := HBS.out; have := HLT.out; have := HL.out; omega) (by have := HBS.out; have := HLT.out; have := HL.out; omega)).mono ?_
        rintro e' w2 ⟨rfl, u', hd, -, hT⟩
        have HD' := hid hd
        have HB' := hid (HBR.out.trans (HD.out.low hT HC0.out HB0'.out))
        have HBS' := hid (show (bs ++ bytesC 6 c ⟨kind, th, tx, at_, v, x', why⟩).length ≤ 12 * (k + 1) by
          have := HBS.out
          have := (bytes_len (V := 32) (S := 32) HD.out.ok ht).2
          rw [List.length_append]; omega)
        clear hd hT ht hkd e0 e1 e2 e3 e4 e5 e6
        go_wp2_with fail
        go_roundw
        case rel => exact ⟨k + 1, _, _, u', by have := HLT.out; omega, by simp, HD', HBS', HB'⟩
        case measure => have := HLT.out; simp [intOf]; omega
      | false =>
        refine (wr_no HD.out hkd HOK.out ht).mono ?_
        rintro e' w2 ⟨rfl, hb⟩
        have HD' := hid (HD.out.below hb)
        have HB' := hid (ext_trans HBR.out hb)
        have HBS' := hid (show bs.length ≤ 12 * (k + 1) by have := HBS.out; omega)
        clear hb ht hkd e0 e1 e2 e3 e4 e5 e6
        go_wp2_with fail
        go_roundw
        case rel => exact ⟨k + 1, _, _, u, by have := HLT.out; omega, by simp, HD', HBS', HB'⟩
        case measure => have := HLT.out; simp [intOf]; omega
    · obtain rfl : k = l.length := by omega
      have j1 : decide ((l.length : Int) < (l.length : Int)) = false := by rw [decide_eq_false_iff_not]; omega
      have j4 : decide (l.length < l.length) = false := by rw [decide_eq_false_iff_not]; omega
      have HBS' := hid (show bs.length ≤ 4800 by have := HBS.out; have := HL.out; omega)
      clear HKL hkl HBS
      obtain ⟨t, ht⟩ : ∃ t : Nat, (x % 18446744073709551616) % 6 = (t : Int) := Int.eq_ofNat_of_zero_le (by omega)
      obtain ⟨q, hq⟩ : ∃ q : Nat, (y % 18446744073709551616) % 32 = (q : Int) := Int.eq_ofNat_of_zero_le (by omega)
      have HT6 := hid (show (0 : Int) ≤ (t : Int) ∧ (t : Int) < 6 by omega)
      have HQ32 := hid (show (0 : Int) ≤ (q : Int) ∧ (q : Int) < 32 by omega)
      have k1 : wrap64 ((IntKind.u64.wrap x).tmod 6) = (t : Int) := by rw [u64_rem, ht]; unfold wrap64; omega
      have k2 : wrap64 ((IntKind.u64.wrap y).tmod 32) = (q : Int) := by rw [u64_rem, hq]; unfold wrap64; omega
      clear ht hq
      go_wp2_with fail
      simp only [k1, k2]
      clear k1 k2
      have heb := Blk.new wr #[.int .u8 3, .int .i64 (t : Int), .int .i64 0, .int .i64 (q : Int), .int .i64 0, .int .i64 9, .int .u8 0] 33
      have hbw : Below wr.heap.size wr (wr.alloc (.cells #[.int .u8 3, .int .i64 (t : Int), .int .i64 0, .int .i64 (q : Int), .int .i64 0, .int .i64 9, .int .u8 0] 33)) := ext_alloc (ext_refl _) _
      have hne : wr.heap.size ≠ C ∧ wr.heap.size ≠ b ∧ ∀ g, u.ownBlock = some g → g ≠ wr.heap.size := ⟨by have := HD.out.co.lt; omega, by have := HD.out.wr.blk.lt; omega, fun g hg => by have := (HD.out.wr.own.lt g hg).2; omega⟩
      have HD1 := hid (HD.out.below hbw)
      have HBR1 := hid (ext_trans HBR.out hbw)
      have HSZ := hid (show wr.heap.size < (wr.alloc (.cells #[.int .u8 3, .int .i64 (t : Int), .int .i64 0, .int .i64 (q : Int), .int .i64 0, .int .i64 9, .int .u8 0] 33)).heap.size from heb.lt)
      generalize wr.alloc (.cells #[.int .u8 3, .int .i64 (t : Int), .int .i64 0, .int .i64 (q : Int), .int .i64 0, .int .i64 9, .int .u8 0] 33) = wz at heb hbw HD1 HBR1 HSZ ⊢
      have HEB := hid heb
      have HNE := hid hne
      clear heb hbw hne HD HBR
      generalize wr.heap.size = eb at HEB HNE HSZ ⊢
      go_loopw [13] (fun i wr => ∃ (k : Nat) (c : Cdr) (bs : List Nat) (u : Value), k ≤ 2 ∧ i = .int .i64 (k : Int) ∧ Hid (Wd 6 32 32 c C b 16777216 bs (b + 1) u wr) ∧ Hid (bs.length ≤ 4800 + 12 * k) ∧ Hid (Below W.heap.size W wr) ∧ Hid (Blk wr eb #[.int .u8 3, .int .i64 (t : Int), .int .i64 0, .int .i64 (q : Int), .int .i64 0, .int .i64 9, .int .u8 0] 33) ∧ Hid (eb < wr.heap.size ∧ eb ≠ C ∧ eb ≠ b ∧ ∀ g, u.ownBlock = some g → g ≠ eb) ∧ Hid (k = 0 ∨ (c.last = (t : Int) ∧ c.x (q : Int) = 9))) (fun i _ => 2 - (intOf i).toNat)
      case atStart => exact ⟨0, _, _, _, by omega, rfl, HD1, hid (by have := HBS'.out; omega), HBR1, HEB, hid ⟨HSZ.out, HNE.out⟩, hid (Or.inl rfl)⟩
      case round =>
        clear HD1 HBR1 HSZ HEB HNE HBS'
        obtain ⟨k, c, bs, u, hkl, rfl, HD, HBS, HBR, HEB, HNE, HKN⟩ := hrel
        have HTY := hid (mayLoad (x := 9) HT6.out HQ32.out c)
        have HTF := hid (mayFree HT6.out HQ32.out c)
        have b1 := HBS.out
        by_cases hlt : k < 2
        · have hby := bytes_len (V := 32) (S := 32) HD.out.ok HTY.out
          have HW := hid (wr_yes HD.out (HK.out.below HBR.out) (e := ⟨3, (t : Int), 0, (q : Int), 0, 9, 0⟩) (by have := HT6.out; have := HQ32.out; unfold EvOk; dsimp only; omega) HTY.out (by omega) (by omega))
          dsimp only [evA] at HW
          have HLN := hid (wLen_any b 16777216 bs wr HD.out.wr.wrt (by omega))
          have j1 : decide ((k : Int) < 2) = true := by rw [decide_eq_true_iff]; omega
          have j3 : IntKind.i64.wrap ((k : Int) + 1) = (k : Int) + 1 := IntWalk.i64_in _ (by omega)
          have j5 : IntKind.i64.wrap ((bs.length : Int) + 16) = (bs.length : Int) + 16 := IntWalk.i64_in _ (by omega)
          have j6 : IntKind.i64.wrap ((bs.length : Int) + 3) = (bs.length : Int) + 3 := IntWalk.i64_in _ (by omega)
          have hsm : k = 1 → (bytesC 6 c ⟨3, (t : Int), 0, (q : Int), 0, 9, 0⟩).length = 3 := fun hk => by
            rcases HKN.out with h | h
            · omega
            · exact small_load h.1 HT6.out HQ32.out h.2
          obtain ⟨n1, hn1⟩ : ∃ n1, n1 = (bs ++ bytesC 6 c ⟨3, (t : Int), 0, (q : Int), 0, 9, 0⟩).length := ⟨_, rfl⟩
          have hn2 := hn1
          rw [List.length_append] at hn2
          have j7 : decide ((bs.length : Int) + 16 < (n1 : Int)) = false := by rw [decide_eq_false_iff_not]; omega
          have HN1 := hid hn1
          have HB1 := hid (show n1 ≤ 4800 + 12 * (k + 1) by omega)
          have e0 := HEB.out.cell 0 (v := .int .u8 3) rfl
          have e1 := HEB.out.cell 1 (v := .int .i64 (t : Int)) rfl
          have e2 := HEB.out.cell 2 (v := .int .i64 0) rfl
          have e3 := HEB.out.cell 3 (v := .int .i64 (q : Int)) rfl
          have e4 := HEB.out.cell 4 (v := .int .i64 0) rfl
          have e5 := HEB.out.cell 5 (v := .int .i64 9) rfl
          have e6 := HEB.out.cell 6 (v := .int .u8 0) rfl
          have j8 : k = 1 → decide ((bs.length : Int) + 3 < (n1 : Int)) = false := fun hk => by have := hsm hk; rw [decide_eq_false_iff_not]; omega
          have HKS := hid (knows_load c (t : Int) (q : Int) 9)
          clear hn1 hn2 hby b1 hsm
          have h01 : k = 0 ∨ k = 1 := by omega
          clear hkl hlt
          rcases h01 with rfl | rfl
          · clear j8
            go_wp2_with fail
            refine HLN.out.mono ?_
            rintro e' w2 ⟨rfl, rfl⟩
            go_wp2_with fail
            refine HW.out.mono ?_
            rintro e' w3 ⟨rfl, u', hd, hu, hT⟩
            have HLN3 := hid (wLen_any b 16777216 _ w3 hd.wr.wrt (by rw [← HN1.out]; have := HB1.out; omega))
            rw [← HN1.out] at HLN3
            have HD3 := hid hd
            have HBR3 := hid (HBR.out.trans (HD.out.low hT HC0.out HB0'.out))
            have hni : eb ∉ C :: b :: u.ownBlock.toList := by
              intro hm
              obtain ⟨q0, q1, q2, q3⟩ := HNE.out
              rcases List.mem_cons.1 hm with e | hm
              · exact q1 e
              rcases List.mem_cons.1 hm with e | hm
              · exact q2 e
              exact q3 eb (by simpa using hm) rfl
            have HEB3 := hid (hT.blk hni HEB.out)
            have HNE3 := hid (show eb < w3.heap.size ∧ eb ≠ C ∧ eb ≠ b ∧ ∀ g, u'.ownBlock = some g → g ≠ eb from ⟨HEB3.out.lt, HNE.out.2.1, HNE.out.2.2.1, fun g hg => by
              rcases hu with e | ⟨g', e, hg'⟩
              · exact HNE.out.2.2.2 g (by rw [← e]; exact hg)
              · rw [hg] at e; cases e; have := HNE.out.1; omega⟩)
            clear hd hu hT hni e0 e1 e2 e3 e4 e5 e6
            go_wp2_with fail
            refine HLN3.out.mono ?_
            rintro e' w4 ⟨rfl, rfl⟩
            go_wp2_with fail
            go_roundw
            case rel => exact ⟨1, _, _, u', by omega, by simp, HD3, hid (by rw [← HN1.out]; exact HB1.out), HBR3, HEB3, HNE3, hid (Or.inr HKS.out)⟩
            case measure => simp [intOf]
          · have j9 := j8 rfl
            clear j8
            go_wp2_with fail
            refine HLN.out.mono ?_
            rintro e' w2 ⟨rfl, rfl⟩
            go_wp2_with fail
            refine HW.out.mono ?_
            rintro e' w3 ⟨rfl, u', hd, hu, hT⟩
            have HLN3 := hid (wLen_any b 16777216 _ w3 hd.wr.wrt (by rw [← HN1.out]; have := HB1.out; omega))
            rw [← HN1.out] at HLN3
            have HD3 := hid hd
            have HBR3 := hid (HBR.out.trans (HD.out.low hT HC0.out HB0'.out))
            have hni : eb ∉ C :: b :: u.ownBlock.toList := by
              intro hm
              obtain ⟨q0, q1, q2, q3⟩ := HNE.out
              rcases List.mem_cons.1 hm with e | hm
              · exact q1 e
              rcases List.mem_cons.1 hm with e | hm
              · exact q2 e
              exact q3 eb (by simpa using hm) rfl
            have HEB3 := hid (hT.blk hni HEB.out)
            have HNE3 := hid (show eb < w3.heap.size ∧ eb ≠ C ∧ eb ≠ b ∧ ∀ g, u'.ownBlock = some g → g ≠ eb from ⟨HEB3.out.lt, HNE.out.2.1, HNE.out.2.2.1, fun g hg => by
              rcases hu with e | ⟨g', e, hg'⟩
              · exact HNE.out.2.2.2 g (by rw [← e]; exact hg)
              · rw [hg] at e; cases e; have := HNE.out.1; omega⟩)
            clear hd hu hT hni e0 e1 e2 e3 e4 e5 e6
            go_wp2_with fail
            refine HLN3.out.mono ?_
            rintro e' w4 ⟨rfl, rfl⟩
            go_wp2_with fail
            refine HLN3.out.mono ?_
            rintro e' w5 ⟨rfl, rfl⟩
            go_wp2_with fail
            go_roundw
            case rel => exact ⟨2, _, _, u', by omega, by simp, HD3, hid (by rw [← HN1.out]; exact HB1.out), HBR3, HEB3, HNE3, hid (Or.inr HKS.out)⟩
            case measure => simp [intOf]
        · obtain rfl : k = 2 := by omega
          have j1 : decide (((2 : Nat) : Int) < 2) = false := by decide
          have hk := HKN.out.resolve_left (by omega)
          have hby := small_free hk.1 HT6.out HQ32.out
          have HW := hid (wr_yes HD.out (HK.out.below HBR.out) (e := ⟨9, (t : Int), 0, (q : Int), 0, 0, 0⟩) (by have := HT6.out; have := HQ32.out; unfold EvOk; dsimp only; omega) HTF.out (by omega) (by omega))
          dsimp only [evA] at HW
          have HLN := hid (wLen_any b 16777216 bs wr HD.out.wr.wrt (by omega))
          have j6 : IntKind.i64.wrap ((bs.length : Int) + 3) = (bs.length : Int) + 3 := IntWalk.i64_in _ (by omega)
          obtain ⟨n1, hn1⟩ : ∃ n1, n1 = (bs ++ bytesC 6 c ⟨9, (t : Int), 0, (q : Int), 0, 0, 0⟩).length := ⟨_, rfl⟩
          have hn2 := hn1
          rw [List.length_append] at hn2
          have j7 : decide ((n1 : Int) ≤ (bs.length : Int) + 3) = true := by rw [decide_eq_true_iff]; omega
          have HN1 := hid hn1
          have HB1 := hid (show n1 ≤ 10000 by omega)
          clear hn1 hn2 hby b1 hk hkl hlt
          go_wp2_with fail
          refine HLN.out.mono ?_
          rintro e' w2 ⟨rfl, rfl⟩
          go_wp2_with fail
          refine HW.out.mono ?_
          rintro e' w3 ⟨rfl, u', hd, hu, hT⟩
          have HLN3 := hid (wLen_any b 16777216 _ w3 hd.wr.wrt (by rw [← HN1.out]; have := HB1.out; omega))
          rw [← HN1.out] at HLN3
          have HBR3 := hid (HBR.out.trans (HD.out.low hT HC0.out HB0'.out))
          clear hd hu hT
          go_wp2_with fail
          refine HLN3.out.mono ?_
          rintro e' w4 ⟨rfl, rfl⟩
          go_wp2_with fail
          rw [HQ.out]
          exact ⟨rfl, HBR3.out⟩
theorem deltaSmall_any (a : Option Addr) (l : List Ev) (cap : Nat) (x y : Int) (W : World) (hE : EvsAt W a l) (hKd : KindsAt W) (hx : -9223372036854775808 ≤ x ∧ x ≤ 9223372036854775807) (hy : -9223372036854775808 ≤ y ∧ y ≤ 9223372036854775807) :
    Calls Tryd.prog 3 #[.slice a l.length cap, .int .i64 x, .int .i64 y] W fun e' W' => e' = .returned (.bool true) ∧ Below W.heap.size W W' := by
  by_cases hl : l.length ≤ 400
  · exact small_any a l cap x y W hE hKd hl hx hy
  · exact small_great a l.length cap x y W hKd (by omega)
end Go.Proofs.YtokkafiphchejaaDoor
/-
  What comes in: an argument of type api.Trace, or []api.Event, or api.Event, that reads as data reads by our own predicates.
-/
namespace Go.Proofs.YtokkafiphchejaaDoor
set_option linter.unusedVariables false
set_option linter.unusedSimpArgs false
open Go Go.RowKit Go.ChangeShapes Go.WideShapes Go.ChangeAt
theorem cellsEv : Tryd.prog.cellsOf 33 = 7 := by kernel_rfl
theorem cellsByte : Tryd.prog.cellsOf 5 = 1 := by kernel_rfl
theorem cellsInt : Tryd.prog.cellsOf 3 = 1 := by kernel_rfl
theorem cellsI64' : Tryd.prog.cellsOf 2 = 1 := by kernel_rfl
theorem cellsEvs : Tryd.prog.cellsOf 22 = 1 := by kernel_rfl
theorem lit_u8 {n : Int} (h : (Lit.int .u8 n).wf = true) : 0 ≤ n ∧ n ≤ 255 := by simpa [Lit.wf, IntKind.min, IntKind.max, IntKind.signed, IntKind.bits] using h
theorem lit_i64 {n : Int} (h : (Lit.int .i64 n).wf = true) : -9223372036854775808 ≤ n ∧ n ≤ 9223372036854775807 := by simpa [Lit.wf, IntKind.min, IntKind.max, IntKind.signed, IntKind.bits] using h
section
variable {H : Type} {enc : TypeId × Value → H} {w : World} {sp : Nat → Bool} {held : Bool}
set_option maxRecDepth 100000 in
/-- Seven cells that read as an event are one. -/
theorem ev_of_trod {fuel : Nat} {cs : List Value} {x : DataW H × List MemPlace} (h : DataW.trod enc Tryd.prog w 0 sp held fuel 33 cs = some x) : ∃ e, cs = evL e ∧ EvOk e := by
  obtain ⟨xs, n, rfl, -, hlen, hxs, hel⟩ := DataW.trod_struct Tryd.underlying33 h
  rw [cellsEv] at hlen
  match cs, hlen with
  | [c0, c1, c2, c3, c4, c5, c6], _ =>
  match xs, hxs with
  | [x0, x1, x2, x3, x4, x5, x6], _ =>
  have h0 : DataW.trod enc Tryd.prog w 0 sp held n 5 (([c0, c1, c2, c3, c4, c5, c6].drop 0).take (Tryd.prog.cellsOf 5)) = some x0 := hel 0 _ rfl
  have h1 : DataW.trod enc Tryd.prog w 0 sp held n 3 (([c0, c1, c2, c3, c4, c5, c6].drop 1).take (Tryd.prog.cellsOf 3)) = some x1 := hel 1 _ rfl
  have h2 : DataW.trod enc Tryd.prog w 0 sp held n 3 (([c0, c1, c2, c3, c4, c5, c6].drop 2).take (Tryd.prog.cellsOf 3)) = some x2 := hel 2 _ rfl
  have h3 : DataW.trod enc Tryd.prog w 0 sp held n 3 (([c0, c1, c2, c3, c4, c5, c6].drop 3).take (Tryd.prog.cellsOf 3)) = some x3 := hel 3 _ rfl
  have h4 : DataW.trod enc Tryd.prog w 0 sp held n 3 (([c0, c1, c2, c3, c4, c5, c6].drop 4).take (Tryd.prog.cellsOf 3)) = some x4 := hel 4 _ rfl
  have h5 : DataW.trod enc Tryd.prog w 0 sp held n 2 (([c0, c1, c2, c3, c4, c5, c6].drop 5).take (Tryd.prog.cellsOf 2)) = some x5 := hel 5 _ rfl
  have h6 : DataW.trod enc Tryd.prog w 0 sp held n 5 (([c0, c1, c2, c3, c4, c5, c6].drop 6).take (Tryd.prog.cellsOf 5)) = some x6 := hel 6 _ rfl
  rw [cellsByte] at h0 h6
  rw [cellsInt] at h1 h2 h3 h4
  rw [cellsI64'] at h5
  simp only [List.drop_zero, List.drop_succ_cons, List.take_succ_cons, List.take_zero] at h0 h1 h2 h3 h4 h5 h6
  obtain ⟨k, e0, -, w0⟩ := DataW.trod_int Tryd.underlying5 h0
  obtain ⟨th, e1, -, w1⟩ := DataW.trod_int Tryd.underlying3 h1
  obtain ⟨tx, e2, -, w2⟩ := DataW.trod_int Tryd.underlying3 h2
  obtain ⟨a, e3, -, w3⟩ := DataW.trod_int Tryd.underlying3 h3
  obtain ⟨v, e4, -, w4⟩ := DataW.trod_int Tryd.underlying3 h4
  obtain ⟨x', e5, -, w5⟩ := DataW.trod_int Tryd.underlying2 h5
  obtain ⟨y, e6, -, w6⟩ := DataW.trod_int Tryd.underlying5 h6
  simp only [List.cons.injEq, and_true] at e0 e1 e2 e3 e4 e5 e6
  subst e0; subst e1; subst e2; subst e3; subst e4; subst e5; subst e6
  exact ⟨⟨k, th, tx, a, v, x', y⟩, rfl, lit_u8 w0, lit_i64 w1, lit_i64 w2, lit_i64 w3, lit_i64 w4, lit_i64 w5, lit_u8 w6⟩
/-- So many cells, one by one. -/
theorem cells_each' {base : Nat} {a : Addr} {n : Nat} {cs : List Value} (h : w.cells? base a n = some cs) (hn : 0 < n) : cs.length = n ∧ a = ⟨a.block, a.off, none⟩ ∧ ∀ i (hc : i < cs.length), w.cell? ⟨a.block, a.off + i, none⟩ = some cs[i] := by
  obtain ⟨_, h1, h2⟩ := World.cells?_some h
  have hs : a = ⟨a.block, a.off, none⟩ := by
    have h3 := World.cell?_spot (by have := h2 0 hn; rw [List.getElem?_eq_getElem (by omega)] at this; exact this)
    obtain ⟨b, o, s⟩ := a
    simp [Addr.add] at h3 ⊢; exact h3
  refine ⟨h1, hs, fun i hc => ?_⟩
  have h3 := h2 i (by omega)
  rw [List.getElem?_eq_getElem hc] at h3
  have h4 := World.cell?_spot h3
  have : a.add i = ⟨a.block, a.off + i, none⟩ := by
    rw [hs]
    unfold Addr.add
    split
    · rename_i h0; simp [h0]
    · rfl
  rw [← this]; exact h3
set_option maxRecDepth 100000 in
theorem evs_of_trod {fuel : Nat} {v : Value} {x : DataW H × List MemPlace} (h : DataW.trod enc Tryd.prog w 0 sp held fuel 22 [v] = some x) : ∃ a l cap, v = .slice a (List.length l) cap ∧ l.length ≤ cap ∧ l.length ≤ 9223372036854775807 ∧ EvsAt w a l := by
  rcases DataW.trod_slice Tryd.underlying22 h with ⟨hc, -⟩ | ⟨ad, len, cap, elems, rest, n, rfl, hc, -, hb, hl, hm, hlen, hel, hsp, hns⟩
  · simp only [List.cons.injEq, and_true] at hc
    exact ⟨none, [], 0, by rw [hc]; rfl, by simp, by simp, fun e he => (by cases he), fun h => absurd rfl h⟩
  · simp only [List.cons.injEq, and_true] at hc
    rw [cellsEv] at hel
    have hch : ∀ i : Fin len, ∃ e, EvOk e ∧ w.cells? 0 (ad.add (i.1 * 7)) 7 = some (evL e) := by
      intro i
      have h1 := hel i.1 i.2
      rw [List.getElem?_eq_getElem (by omega)] at h1
      obtain ⟨cs', h2, h3⟩ := Option.bind_eq_some_iff.1 h1
      obtain ⟨e, rfl, he⟩ := ev_of_trod h3
      exact ⟨e, he, h2⟩
    refine ⟨some ad, List.ofFn fun i => Classical.choose (hch i), cap, by rw [hc]; simp, by simpa using hl, by unfold maxLen at hm; simp; omega, ?_, fun hne => ?_⟩
    · intro e he
      obtain ⟨i, rfl⟩ := List.mem_ofFn.1 he
      exact (Classical.choose_spec (hch i)).1
    · have hpos : 0 < len := by
        rcases Nat.eq_zero_or_pos len with h | h
        · subst h; simp at hne
        · exact h
      have had : ad = ⟨ad.block, ad.off, none⟩ := by
        obtain ⟨-, hc0⟩ := Classical.choose_spec (hch ⟨0, hpos⟩)
        obtain ⟨-, hs, -⟩ := cells_each' hc0 (by omega)
        have e : ad.add (0 * 7) = ad := by simp [Addr.add]
        simp only [e] at hs
        exact hs
      refine ⟨ad.block, ad.off, congrArg some had, fun k hk j v hv => ?_⟩
      simp only [List.length_ofFn] at hk
      obtain ⟨-, hc0⟩ := Classical.choose_spec (hch ⟨k, hk⟩)
      obtain ⟨hl7, hs, hall⟩ := cells_each' hc0 (by omega)
      have hbo : (ad.add (k * 7)).block = ad.block ∧ (ad.add (k * 7)).off = ad.off + k * 7 := by
        unfold Addr.add; split
        · rename_i h; simp [h]
        · exact ⟨rfl, rfl⟩
      simp only [List.getElem_ofFn] at hv
      obtain ⟨hj, rfl⟩ := List.getElem?_eq_some_iff.1 hv
      have := hall j hj
      rw [hbo.1, hbo.2] at this
      exact this
set_option maxRecDepth 100000 in
theorem open_Evs {r : Reach} {b0 : Nat} {v : Value} {d : DataW H} {p : List MemPlace}
    (hv : Value.okWide Tryd.prog w r b0 22 v) (h : DataW.Trod enc Tryd.prog w 0 sp held 22 v d p) :
    ∃ a l cap, v = .slice a (List.length l) cap ∧ l.length ≤ cap ∧ l.length ≤ 9223372036854775807 ∧ EvsAt w a l := by
  obtain ⟨a0, len, cap0, rfl⟩ := okWide_slice Tryd.underlying22 hv
  obtain ⟨fuel, hf⟩ := h
  obtain ⟨a, l, cap, h1, h2, h3, h4⟩ := evs_of_trod hf
  exact ⟨a, l, cap, h1, h2, h3, h4⟩
end
end Go.Proofs.YtokkafiphchejaaDoor
/-
  What comes in: an event, a string.
-/
namespace Go.Proofs.YtokkafiphchejaaDoor
set_option linter.unusedVariables false
set_option linter.unusedSimpArgs false
set_option linter.unusedVariables false
open Go Go.RowKit Go.ChangeShapes Go.WideShapes Go.ChangeAt
section
variable {H : Type} {enc : TypeId × Value → H} {w : World} {sp : Nat → Bool} {held : Bool}
set_option maxRecDepth 100000 in
theorem open_Ev {r : Reach} {b0 : Nat} {v : Value} {d : DataW H} {p : List MemPlace}
    (hv : Value.okWide Tryd.prog w r b0 33 v) (h : DataW.Trod enc Tryd.prog w 0 sp held 33 v d p) :
    ∃ e, v = evA e ∧ EvOk e := by
  obtain ⟨cs, rfl, hsz⟩ := okWide_struct Tryd.underlying33 hv
  obtain ⟨fuel, hf⟩ := h
  obtain ⟨e, h1, h2⟩ := ev_of_trod hf
  have h1' : cs.toList = evL e := h1
  exact ⟨e, by rw [← Array.toArray_toList (xs := cs), h1']; rfl, h2⟩
set_option maxRecDepth 100000 in
theorem open_StrB {r : Reach} {b0 : Nat} {v : Value} {d : DataW H} {p : List MemPlace}
    (hv : Value.okWide Tryd.prog w r b0 9 v) (h : DataW.Trod enc Tryd.prog w 0 sp held 9 v d p) :
    ∃ s : ByteArray, v = .string s ∧ s.size ≤ 9223372036854775807 := by
  obtain ⟨s, rfl, -, -, hs⟩ := Go.ChangeMaps.open_string Tryd.underlying9 hv h
  exact ⟨s, rfl, hs⟩
end
end Go.Proofs.YtokkafiphchejaaDoor
