/-
  Packs, plainly: what is read is well formed; what is refused, and where.
-/
import Derived.Test.YtaklfjjkeebheaaPbV
import Derived.Test.YtaklfjjkeebheaaSuD
import Derived.Test.YtaklfjjkeebheaaPkO
import Derived.Test.YtaklfjjkeebheaaPbW
import Derived.Test.YtaklfjjkeebheaaSuC
namespace Go.Proofs.Ytaklfjjkeebheaa
set_option linter.unusedVariables false
set_option linter.unusedSimpArgs false
set_option linter.unusedVariables false
theorem flatT_append : ∀ (a b : List St), flatT (a ++ b) = flatT a ++ flatT b
  | [], b => rfl
  | x :: xs, b => by simp only [List.cons_append, flatT]; rw [flatT_append xs b, List.append_assoc]
/-- A statement is well formed: its Kind, its expressions' sizes, no block where its Kind has none. -/
structure Wf (y : St) : Prop where
  kd : 1 ≤ y.kind ∧ y.kind ≤ 8
  ok : okE y
  o : 111 ∉ lettersOf y.kind.toNat → y.body = []
  e : 101 ∉ lettersOf y.kind.toNat → y.els = []
def WfT (l : List St) : Prop := ∀ y ∈ flatT l, Wf y
theorem wfT_nil : WfT [] := fun y hy => by simp [flatT] at hy
theorem wfT_app {a b : List St} (ha : WfT a) (hb : WfT b) : WfT (a ++ b) := fun y hy => by
  rw [flatT_append] at hy
  rcases List.mem_append.1 hy with h | h
  · exact ha y h
  · exact hb y h
theorem wfT_one {s : St} (h : Wf s) (ho : WfT s.body) (he : WfT s.els) : WfT [s] := fun y hy => by
  simp only [flatT, List.append_nil] at hy
  rw [flatS_is] at hy
  rcases List.mem_cons.1 hy with e | hy
  · rw [e]; exact h
  · rcases List.mem_append.1 hy with h | h
    · exact ho y h
    · exact he y h
/-- While a statement's parts are read. -/
structure WfP (cs : List Nat) (s s' : St) : Prop where
  kind : s'.kind = s.kind
  ok : okE s'
  bo : WfT s'.body
  el : WfT s'.els
  o : 111 ∉ cs → s'.body = s.body
  e : 101 ∉ cs → s'.els = s.els
theorem sizeE6 (r : Rdr) : sizeE (exprL 6 r).1 ≤ 3000 := by have := sizeE_exprL 6 r (by omega); omega
theorem partsL_wf {B : Rdr → List St × Rdr} (hB : ∀ r, RdB r → WfT (B r).1) (hk : BOk B) : ∀ (cs : List Nat) (s : St) (r : Rdr), RdB r → okE s → WfT s.body → WfT s.els → WfP cs s (partsL B cs s r).1
  | [], s, r, hr, h1, h2, h3 => ⟨rfl, h1, h2, h3, fun _ => rfl, fun _ => rfl⟩
  | c :: cs, s, r, hr, h1, h2, h3 => by
    have key : okE (partL B s c r).1 ∧ WfT (partL B s c r).1.body ∧ WfT (partL B s c r).1.els ∧ (c ≠ 111 → (partL B s c r).1.body = s.body) ∧ (c ≠ 101 → (partL B s c r).1.els = s.els) := by
      have hs := sizeE6 r
      have h4 := hB r hr
      unfold partL
      repeat' split
      all_goals (refine ⟨?_, ?_, ?_, ?_, ?_⟩)
      all_goals first
        | exact h1 | exact h2 | exact h3 | exact h4
        | exact ⟨hs, h1.2⟩ | exact ⟨h1.1, hs⟩
        | (intro _; rfl)
        | (intro hne; omega)
    obtain ⟨k1, k2, k3, k4, k5⟩ := key
    have ih := partsL_wf hB hk cs (partL B s c r).1 (partL B s c r).2 ((partL_kept hk s c hr).rdb hr) k1 k2 k3
    rw [partsL]
    refine ⟨ih.kind.trans (partL_kind s c r), ih.ok, ih.bo, ih.el, fun h => ?_, fun h => ?_⟩
    · rw [ih.o (fun hm => h (List.mem_cons_of_mem _ hm)), k4 (fun e => h (by simp [e]))]
    · rw [ih.e (fun hm => h (List.mem_cons_of_mem _ hm)), k5 (fun e => h (by simp [e]))]
theorem stmtsL_wf {B : Rdr → List St × Rdr} (hB : ∀ r, RdB r → WfT (B r).1) : ∀ (k : Nat) (out : List St) (r : Rdr), RdB r → BOk B → WfT out → WfT (stmtsL B k out r).1
  | 0, out, r, hr, hk, ho => ho
  | k + 1, out, r, hr, hk, ho => by
    have h1 := numL_kept hr 1 8
    have hle := numL_le r 1 8
    unfold stmtsL
    split
    · exact wfT_nil
    · rename_i c0
      have hge := (numL_went hr (least := 1) (most := 8) (by omega)).2
      have hp := partsL_wf hB hk (lettersOf (numL r 1 8).1) (stNew (numL r 1 8).1) (numL r 1 8).2 (h1.rdb hr) (by unfold okE stNew; simp [St.a, St.b, exZ, sizeE, sizeL]) wfT_nil wfT_nil
      have hkp := partsL_kept hk (lettersOf (numL r 1 8).1) (stNew (numL r 1 8).1) (h1.rdb hr)
      refine stmtsL_wf hB k _ _ ((h1.trans hkp).rdb hr) hk (wfT_app ho (wfT_one ⟨?_, hp.ok, fun h => ?_, fun h => ?_⟩ hp.bo hp.el))
      · rw [hp.kind]; show 1 ≤ ((numL r 1 8).1 : Int) ∧ ((numL r 1 8).1 : Int) ≤ 8; omega
      · rw [hp.kind] at h; exact hp.o h
      · rw [hp.kind] at h; exact hp.e h
theorem blockL_wf : ∀ (d : Nat) (r : Rdr), RdB r → WfT (blockL d r).1
  | 0, r, hr => wfT_nil
  | d + 1, r, hr => stmtsL_wf (fun r hr => blockL_wf d r hr) _ _ _ ((numL_kept hr 0 40).rdb hr) (blockL_ok d) wfT_nil
/-- A thread that is read. -/
def WfTh (th : List (List St)) : Prop := th.length ≤ 6 ∧ ∀ t ∈ th, WfT t
theorem txsL_wf : ∀ (k : Nat) (out : List (List St)) (r : Rdr), RdB r → (∀ t ∈ out, WfT t) → (txsL k out r).1.length = out.length + k ∧ ∀ t ∈ (txsL k out r).1, WfT t
  | 0, out, r, hr, ho => ⟨rfl, ho⟩
  | k + 1, out, r, hr, ho => by
    have h1 := (blockL_ok 6).kept r hr
    have := txsL_wf k (out ++ [(blockL 6 r).1]) (blockL 6 r).2 (h1.rdb hr) (fun t ht => by
      rcases List.mem_append.1 ht with h | h
      · exact ho t h
      · rw [List.mem_singleton.1 h]; exact blockL_wf 6 r hr)
    rw [txsL]
    refine ⟨?_, this.2⟩
    rw [this.1]; simp; omega
theorem thsL_wf : ∀ (k : Nat) (out : List (List (List St))) (r : Rdr), RdB r → (∀ t ∈ out, WfTh t) → ∀ t ∈ (thsL k out r).1, WfTh t
  | 0, out, r, hr, ho => ho
  | k + 1, out, r, hr, ho => by
    have h1 := numL_kept hr 0 6
    have hl := numL_le r 0 6
    have h2 := txsL_kept (numL r 0 6).1 [] (h1.rdb hr)
    have h3 := txsL_wf (numL r 0 6).1 [] (numL r 0 6).2 (h1.rdb hr) (fun t ht => by cases ht)
    rw [thsL]
    refine thsL_wf k _ _ (h2.rdb (h1.rdb hr)) (fun t ht => ?_)
    rcases List.mem_append.1 ht with h | h
    · exact ho t h
    · rw [List.mem_singleton.1 h]
      exact ⟨by rw [h3.1]; simpa using hl, h3.2⟩
theorem restL_wf (l : List Int) {r : Rdr} (hr : RdB r) : ∀ t ∈ (restL l r).1.ths, WfTh t := by
  unfold restL
  dsimp only
  have k3 := numL_kept hr 1 l.length
  generalize numL r 1 l.length = a at *
  have k4 := numL_kept (k3.rdb hr) 0 1099511627776
  generalize numL a.2 0 1099511627776 = b at *
  have k5 := numL_kept ((k3.trans k4).rdb hr) 1 1000
  generalize numL b.2 1 1000 = c at *
  have k6 := numL_kept (((k3.trans k4).trans k5).rdb hr) 0 6
  exact thsL_wf _ [] _ ((((k3.trans k4).trans k5).trans k6).rdb hr) (fun t ht => by cases ht)
theorem setupL_wf {r : Rdr} (hr : RdB r) : ∀ t ∈ (setupL r).1.ths, WfTh t := by
  have k1 := numL_kept hr 1 32
  have k2 := initL_kept (numL r 1 32).1 [] (k1.rdb hr)
  unfold setupL
  dsimp only
  split
  · intro t ht; cases ht
  · exact restL_wf _ ((k1.trans k2).rdb hr)
theorem putN_some (n : Nat) : 1 ≤ (putN n).length := by unfold putN putF; split <;> simp
/-- A statement's bytes are as many as its statements, at least. -/
theorem size_bytes (k : Nat) : (∀ s : St, sizeS s ≤ k → Wf s → WfT s.body → WfT s.els → sizeS s ≤ (stB s).length) ∧ (∀ l : List St, sizeT l ≤ k → WfT l → sizeT l ≤ (stsB l).length) := by
  induction k with
  | zero =>
    refine ⟨fun s h => ?_, fun l h _ => by omega⟩
    cases s; simp [sizeS] at h
  | succ k ih =>
    have h1 : ∀ s : St, sizeS s ≤ k + 1 → Wf s → WfT s.body → WfT s.els → sizeS s ≤ (stB s).length := by
      intro s hs hw ho he
      have g1 := sizeS_body s
      have g2 := sizeS_els s
      have i1 := ih.2 s.body (by omega) ho
      have i2 := ih.2 s.els (by omega) he
      have hsz : sizeS s = 1 + sizeT s.body + sizeT s.els := by cases s; rfl
      have hb0 : s.body = [] → sizeT s.body = 0 := fun e => by rw [e]; rfl
      have he0 : s.els = [] → sizeT s.els = 0 := fun e => by rw [e]; rfl
      have hpn := putN_some (u64 s.kind)
      obtain ⟨kd, hkd⟩ : ∃ kd : Nat, s.kind = (kd : Int) := ⟨s.kind.toNat, by have := hw.kd; omega⟩
      have hkb : 1 ≤ kd ∧ kd ≤ 8 := by have := hw.kd; omega
      have hlo : ∀ l : List St, sizeT l ≤ (stsB l).length → sizeT l ≤ (blockB l).length := fun l h => by unfold blockB; rw [List.length_append]; omega
      have j1 := hlo _ i1
      have j2 := hlo _ i2
      have ho' := hw.o
      have he' := hw.e
      rw [stB_is, List.length_append, hsz]
      rw [hkd, Int.toNat_natCast] at ho' he' ⊢
      rw [hkd] at hpn
      have hkc : kd = 1 ∨ kd = 2 ∨ kd = 3 ∨ kd = 4 ∨ kd = 5 ∨ kd = 6 ∨ kd = 7 ∨ kd = 8 := by omega
      have l4 : letOf s 111 = blockB s.body := by simp [letOf, letB]
      have l5 : letOf s 101 = blockB s.els := by simp [letOf, letB]
      have z1 : 111 ∉ lettersOf kd → sizeT s.body = 0 := fun h => hb0 (ho' h)
      have z2 : 101 ∉ lettersOf kd → sizeT s.els = 0 := fun h => he0 (he' h)
      rcases hkc with rfl | rfl | rfl | rfl | rfl | rfl | rfl | rfl
      all_goals (
        simp [lettersOf, l4, l5] at z1 z2 hpn ⊢
        omega)
    refine ⟨h1, fun l => ?_⟩
    induction l with
    | nil => intro _ _; simp [sizeT]
    | cons x xs ihl =>
      intro hl hw
      have hx : Wf x ∧ WfT x.body ∧ WfT x.els := by
        refine ⟨hw x ?_, fun y hy => hw y ?_, fun y hy => hw y ?_⟩
        all_goals simp only [flatT]
        all_goals rw [flatS_is]
        · simp
        · exact List.mem_append_left _ (List.mem_cons_of_mem _ (List.mem_append_left _ hy))
        · exact List.mem_append_left _ (List.mem_cons_of_mem _ (List.mem_append_right _ hy))
      simp only [sizeT, stsB, List.length_append] at hl ⊢
      have a1 := h1 x (by omega) hx.1 hx.2.1 hx.2.2
      have a2 := ihl (by omega) (fun y hy => hw y (by simp only [flatT]; exact List.mem_append_right _ hy))
      omega
theorem tx_bytes {x : Su} {th : List (List St)} {t : List St} (h1 : th ∈ x.ths) (h2 : t ∈ th) : (stsB t).length ≤ (setupB x).length := by
  have a1 : ∀ {α : Type} {f : α → List Nat} (l : List α) (y : α), y ∈ l → (f y).length ≤ (l.flatMap f).length := by
    intro α f l
    induction l with
    | nil => intro y h; cases h
    | cons z zs ih =>
      intro y h
      rw [List.flatMap_cons, List.length_append]
      rcases List.mem_cons.1 h with e | h
      · rw [e]; omega
      · have := ih y h; omega
  have b1 := a1 (f := thB) x.ths th h1
  have b2 := a1 (f := blockB) th t h2
  have b3 : (stsB t).length ≤ (blockB t).length := by unfold blockB; rw [List.length_append]; omega
  have b4 : (th.flatMap blockB).length ≤ (thB th).length := by unfold thB; rw [List.length_append]; omega
  unfold setupB
  simp only [List.length_append]
  omega
end Go.Proofs.Ytaklfjjkeebheaa
