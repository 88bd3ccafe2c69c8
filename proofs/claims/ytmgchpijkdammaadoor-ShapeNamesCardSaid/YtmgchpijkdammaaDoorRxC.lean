/-
  Reckoning: shape.Check by its contract; the events are read off the memory.
-/
import Derived.Test.YtmgchpijkdammaaDoorRxM
import Derived.Test.YtmgchpijkdammaaDoorShW
namespace Go.Proofs.YtmgchpijkdammaaDoor.Rk
set_option linter.unusedVariables false
open Go Go.RowKit
set_option maxRecDepth 100000
set_option maxHeartbeats 4000000
set_option linter.unusedSimpArgs false
set_option linter.unusedVariables false

def evAV (e : Ev) : List AV := [.int .u8 e.kind, .int .i64 e.th, .int .i64 e.tx, .int .i64 e.at_, .int .i64 e.v, .int .i64 e.x, .int .u8 e.why]
/-- So many events, one behind the other. -/
noncomputable def evsOf {β : Type} : Nat → List AV → (List Ev → Option β) → Option β := Nat.rec (fun cs k => match cs with | [] => k [] | _ => none) (fun _ ih cs k => match cs with
  | .int .u8 a :: .int .i64 b :: .int .i64 c :: .int .i64 d :: .int .i64 e :: .int .i64 f :: .int .u8 g :: r => fI a fun a => fI b fun b => fI c fun c => fI d fun d => fI e fun e => fI f fun f => fI g fun g => ih r fun l => k (⟨a, b, c, d, e, f, g⟩ :: l)
  | _ => none)
theorem evsOf_spec {β : Type} : ∀ (n : Nat) (cs : List AV) (k : List Ev → Option β) (r : β), evsOf n cs k = some r → ∃ l : List Ev, l.length = n ∧ cs = l.flatMap evAV ∧ k l = some r
  | 0, cs, k, r, h => by
    have h' : (match (generalizing := false) cs with | [] => k [] | _ => none) = some r := h
    split at h'
    · exact ⟨[], rfl, rfl, h'⟩
    · cases h'
  | n + 1, cs, k, r, h => by
    have h' : (match (generalizing := false) cs with
      | .int .u8 a :: .int .i64 b :: .int .i64 c :: .int .i64 d :: .int .i64 e :: .int .i64 f :: .int .u8 g :: r => fI a fun a => fI b fun b => fI c fun c => fI d fun d => fI e fun e => fI f fun f => fI g fun g => evsOf n r fun l => k (⟨a, b, c, d, e, f, g⟩ :: l)
      | _ => none) = some r := h
    split at h'
    · simp only [fI_eq] at h'
      obtain ⟨l, h1, h2, h3⟩ := evsOf_spec n _ _ r h'
      refine ⟨_ :: l, by rw [List.length_cons, h1], ?_, h3⟩
      rw [h2]
      rfl
    · cases h'
theorem evAV_len (l : List Ev) : (l.flatMap evAV).length = l.length * 7 := by
  induction l with
  | nil => rfl
  | cons e l ih => rw [List.flatMap_cons, List.length_append, ih, List.length_cons, show (evAV e).length = 7 from rfl]; omega
theorem LR.evs {m : Tl} : ∀ (l : List Ev) (vs : List Value), LR m (l.flatMap evAV) vs → vs = l.flatMap evL
  | [], vs, h => h.inv_nil
  | e :: l, vs, h => by
    rw [List.flatMap_cons] at h
    have h0 : LR m (.int .u8 e.kind :: .int .i64 e.th :: .int .i64 e.tx :: .int .i64 e.at_ :: .int .i64 e.v :: .int .i64 e.x :: .int .u8 e.why :: l.flatMap evAV) vs := h
    obtain ⟨c1, r1, rfl, q1, h1⟩ := h0.inv_cons
    obtain ⟨c2, r2, rfl, q2, h2⟩ := h1.inv_cons
    obtain ⟨c3, r3, rfl, q3, h3⟩ := h2.inv_cons
    obtain ⟨c4, r4, rfl, q4, h4⟩ := h3.inv_cons
    obtain ⟨c5, r5, rfl, q5, h5⟩ := h4.inv_cons
    obtain ⟨c6, r6, rfl, q6, h6⟩ := h5.inv_cons
    obtain ⟨c7, r7, rfl, q7, h7⟩ := h6.inv_cons
    have := LR.evs l r7 h7
    subst this
    cases q1; cases q2; cases q3; cases q4; cases q5; cases q6; cases q7
    rfl
theorem evL_len (e : Ev) : (evL e).length = 7 := rfl
theorem evL_get : ∀ (l : List Ev) (k : Nat) (h : k < l.length) (j : Nat) (v : Value), (evL l[k])[j]? = some v → (l.flatMap evL)[k * 7 + j]? = some v
  | [], k, h, _, _, _ => by simp at h
  | e :: l, 0, h, j, v, hv => by
    have hj : j < (evL e).length := (List.getElem?_eq_some_iff.1 hv).1
    rw [List.flatMap_cons, Nat.zero_mul, Nat.zero_add, List.getElem?_append_left hj]
    exact hv
  | e :: l, k + 1, h, j, v, hv => by
    have hk : k < l.length := by simpa using h
    rw [List.flatMap_cons, List.getElem?_append_right (by rw [evL_len]; omega), evL_len, show (k + 1) * 7 + j - 7 = k * 7 + j by omega]
    exact evL_get l k hk j v (by simpa using hv)
theorem kinds_old {w0 W : World} (hold : ∀ (k : Nat) (ob : Obj), w0.heap[k]? = some ob → W.heap[k]? = some ob) (hK : KindsAt w0) : KindsAt W := by
  have hcell : ∀ (a : Addr) (u : Value), w0.cell? a = some u → W.cell? a = some u := fun a u hu => by
    unfold World.cell? at hu ⊢
    cases hx : w0.heap[a.block]? with
    | none => rw [hx] at hu; cases hu
    | some ob => rw [hold _ _ hx]; rw [hx] at hu; exact hu
  intro k fs hk
  obtain ⟨a, cap, h1, h2, h3⟩ := hK k fs hk
  refine ⟨a, cap, hcell _ _ h1, h2, fun hne => ?_⟩
  obtain ⟨b, o, h4, h5⟩ := h3 hne
  exact ⟨b, o, h4, fun i hi => hcell _ _ (h5 i hi)⟩
theorem tab_old {w0 W : World} (hold : ∀ (k : Nat) (ob : Obj), w0.heap[k]? = some ob → W.heap[k]? = some ob) (hT : TabOk w0) : TabOk W := by
  have hcell : ∀ (a : Addr) (u : Value), w0.cell? a = some u → W.cell? a = some u := fun a u hu => by
    unfold World.cell? at hu ⊢
    cases hx : w0.heap[a.block]? with
    | none => rw [hx] at hu; cases hu
    | some ob => rw [hold _ _ hx]; rw [hx] at hu; exact hu
  intro i hi
  exact hcell _ _ (hT i hi)
noncomputable def chkA (T V S : Int) (l : List Ev) (s : St) : Option (AV × St) := Bool.rec none (fI (checkT T V S l).1 fun a => fI (checkT T V S l).2 fun b => some (.tup [.int .i64 a, .int .i64 b], s)) (l.all evOkB)
noncomputable def chkM (T V S : Int) (b off n : Nat) (s : St) : Option (AV × St) := ob (cellsAt b s) fun r => match r with
  | (cs, _, s1) => ob (sub? cs off (n * 7)) fun cs => evsOf n cs fun l => chkA T V S l s1
noncomputable def checkO : OrcT := fun f args s => match args with
  | [.agg [.int .i64 T, .int .i64 V, .int .i64 S, x]] => Bool.rec none (match x with
    | .nils => chkA T V S [] s
    | .sl b off n _ => chkM T V S b off n s
    | .slu b off n _ => chkM T V S b off n s
    | _ => none) (Nat.beq f 10)
  | _ => none
theorem chkA_spec {T V S : Int} {l : List Ev} {s : St} {v : AV} {s' : St} (h : chkA T V S l s = some (v, s')) : (∀ e ∈ l, EvOk e) ∧ v = .tup [.int .i64 (checkT T V S l).1, .int .i64 (checkT T V S l).2] ∧ s' = s := by
  obtain ⟨h1, h2⟩ := rec_some h
  simp only [fI_eq] at h2
  cases h2
  exact ⟨fun e he => evOkB_spec (List.all_eq_true.1 h1 e he), rfl, rfl⟩
theorem checkO_ok {w0 : World} (hK : KindsAt w0) (hT : TabOk w0) : OrcOk w0 Tryd.prog checkO := by
  intro f args s v s' h
  unfold checkO at h
  split at h
  case h_2 => cases h
  rename_i T V S x
  obtain ⟨hf, h_⟩ := rec_some h; clear h; have h := h_; clear h_
  have hf := Nat.eq_of_beq_eq_true hf
  subst hf
  have hF : ∃ fn, Tryd.prog.funcs[10]? = some fn ∧ fn.body.isNone = false ∧ (fn.name == "runtime.NumGoroutine") = false := ⟨Tryd.f10, Tryd.func10, rfl, by decide +kernel⟩
  have args1 : ∀ {m : Tl} {vals : List Value}, LR m [.agg [.int .i64 T, .int .i64 V, .int .i64 S, x]] vals → ∃ z, vals = [.agg #[.int .i64 T, .int .i64 V, .int .i64 S, z]] ∧ VR m x z := by
    intro m vals hl
    obtain ⟨a, l1, rfl, ha, hl1⟩ := hl.inv_cons
    have := hl1.inv_nil
    subst this
    cases ha with
    | agg hal hav =>
      rename_i cs
      have hcs : LR m [.int .i64 T, .int .i64 V, .int .i64 S, x] cs := ⟨hal, hav⟩
      obtain ⟨c1, r1, rfl, q1, hcs1⟩ := hcs.inv_cons
      obtain ⟨c2, r2, rfl, q2, hcs2⟩ := hcs1.inv_cons
      obtain ⟨c3, r3, rfl, q3, hcs3⟩ := hcs2.inv_cons
      obtain ⟨c4, r4, rfl, q4, hcs4⟩ := hcs3.inv_cons
      have := hcs4.inv_nil
      subst this
      cases q1; cases q2; cases q3
      exact ⟨c4, rfl, q4⟩
  have fin : ∀ {m : Tl} (p q : Int), VR m (.tup [.int .i64 p, .int .i64 q]) (.tuple #[.int .i64 p, .int .i64 q]) := fun p q => .tup rfl (fun i a v h1 h2 => (LR.cons (.int _ _) (LR.cons (.int _ _) (LR.nil _))).2 i a v h1 h2)
  have mem : ∀ (b off n : Nat), (∃ cap, x = .sl b off n cap) ∨ (∃ k, x = .slu b off n k) → chkM T V S b off n s = some (v, s') → (∃ fn, Tryd.prog.funcs[10]? = some fn ∧ fn.body.isNone = false ∧ (fn.name == "runtime.NumGoroutine") = false) ∧
      ∃ T' Wr, Seg s s' T' Wr ∧ ∀ (m : Tl) (H : Hp) (W : World) (vals : List Value) (R : Ending → World → Prop), Good w0 Tryd.prog Tryd.prog.globals.size m H W → Agree H s T' → Fresh m s s' → LR m [.agg [.int .i64 T, .int .i64 V, .int .i64 S, x]] vals →
        (∀ m' v' W', Stp w0 Tryd.prog Tryd.prog.globals.size s s' Wr m m' H W W' → VR m' v v' → R (.returned v') W') → CallsIn Fence.wide 0 Tryd.prog 10 ⟨vals⟩ W R := by
    intro b off n hx h
    obtain ⟨⟨cs, ex, s1⟩, hcells, h_⟩ := ob_some h; clear h; have h := h_; clear h_
    obtain ⟨ds, hds, h_⟩ := ob_some h; clear h; have h := h_; clear h_
    obtain ⟨hle, hdsE⟩ := sub_some hds
    obtain ⟨l, hll, hlE, h_⟩ := evsOf_spec _ _ _ _ h; clear h; have h := h_; clear h_
    obtain ⟨hok, rfl, rfl⟩ := chkA_spec h
    obtain ⟨hblt, _, g1, _, hn1⟩ := look_spec (cellsAt_look hcells)
    refine ⟨hF, [b], [], g1, fun m H W vals R hg ha hfr hl hR => ?_⟩
    obtain ⟨z, rfl, hz⟩ := args1 hl
    obtain ⟨b', cap, hm, rfl, hlc⟩ := hz.slice hx
    obtain ⟨b2, c, el, lo, hi', hb, hh, hlen2, _, hlcs, _, _, _⟩ := cells_obj hcells ha (by simp) hg
    rw [hm] at hb; cases hb
    have hlv := (hlcs.drop off).take (n * 7)
    rw [← hdsE, hlE] at hlv
    have hvs := LR.evs l _ hlv
    have hE : EvsAt W (some ⟨b', off, none⟩) l := ⟨hok, fun _ => ⟨b', off, rfl, fun k hk j u hu => by
      have h1 := evL_get l k hk j u hu
      rw [← hvs, List.getElem?_take] at h1
      split at h1
      · rw [List.getElem?_drop, List.getElem?_take] at h1
        split at h1
        · rw [cell_of hh, Nat.add_assoc]
          rw [Array.getElem?_toList] at h1
          exact h1
        · cases h1
      · cases h1⟩⟩
    have hC := check_all T V S (some ⟨b', off, none⟩) l cap W hE (kinds_old hg.old hK) (tab_old hg.old hT)
    rw [hll] at hC
    refine (callsIn_wide.2 hC).mono fun e W' ⟨he, hb⟩ => ?_
    subst he
    exact hR m _ W' (by simpa using Stp.trans g1 (Seg.refl _) (Stp.looked g1 hn1 hg) (Stp.below (by rw [updH_looked hn1]; exact hg) hb)) (fin _ _)
  split at h
  · obtain ⟨hok, rfl, rfl⟩ := chkA_spec h
    refine ⟨hF, [], [], Seg.refl _, fun m H W vals R hg ha hfr hl hR => ?_⟩
    obtain ⟨z, rfl, hz⟩ := args1 hl
    cases hz
    have hC := check_all T V S none [] 0 W ⟨hok, fun h => absurd rfl h⟩ (kinds_old hg.old hK) (tab_old hg.old hT)
    refine (callsIn_wide.2 hC).mono fun e W' ⟨he, hb⟩ => ?_
    subst he
    exact hR m _ W' (Stp.below hg hb) (fin _ _)
  · exact mem _ _ _ (.inl ⟨_, rfl⟩) h
  · exact mem _ _ _ (.inr ⟨_, rfl⟩) h
  · cases h
end Go.Proofs.YtmgchpijkdammaaDoor.Rk
