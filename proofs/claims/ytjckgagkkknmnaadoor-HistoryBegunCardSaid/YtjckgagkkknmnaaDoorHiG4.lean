/-
  Joined texts: RtXp HiWt RxM RxD HiWk.
-/
import Derived.Test.YtjckgagkkknmnaaDoorHiG6
import Derived.RangeFuncRecord
import Derived.Scope
import Derived.Below
import Derived.Test.YtjckgagkkknmnaaDoorProg
import Derived.Test.YtjckgagkkknmnaaDoorShN
import Derived.Test.YtjckgagkkknmnaaDoorHiG8
/-
  Joined texts: Rtj Rtk Rtl Rtn Rtm Rto Rtp RtZ RtT.
-/
/-
  Reckoning a program in the kernel: a region that draws its order, whole. Nothing of the program.
-/
namespace Go.Proofs.YtjckgagkkknmnaaDoor.Rk
set_option linter.unusedVariables false
set_option linter.unusedVariables false
set_option linter.unusedSimpArgs false
open Go
set_option maxHeartbeats 2000000
set_option linter.unusedSimpArgs false

section
variable {w0 : World} {P : Program} {N : Nat} {ops : Array Oper} {anc : Array Nat} {ro : Option Nat}
/-- All that is known of the region, reckoned in its text's row; n: how many operations. -/
structure DReg (w0 : World) (P : Program) (N : Nat) (ops : Array Oper) (anc : Array Nat) (ro : Option Nat) (A : Nat → Tri AV) (S : Nat → St) (T Wr : Nat → List Nat) (V : Nat → AV) : Prop where
  f : ∀ k, k < ops.size → OpF w0 P N ops ro k (A k) (A (k + 1)) (S k) (S (k + 1)) (T k) (Wr k) (V k)
  clear : ∀ i k x, i < ops.size → k < ops.size → x ∈ T i → (x ∈ Wr k ∨ ((S k).nx ≤ x ∧ x < (S (k + 1)).nx)) → i = k ∨ (anc.getD i 0).testBit k = true ∨ (anc.getD k 0).testBit i = true
  ao : ancOk ops anc = true
  ap : apartOk ops anc = true
  bk : backs ops = true
variable {A : Nat → Tri AV} {S : Nat → St} {T Wr : Nat → List Nat} {V : Nat → AV}
def own (S : Nat → St) (Wr : Nat → List Nat) (k x : Nat) : Prop := x ∈ Wr k ∨ ((S k).nx ≤ x ∧ x < (S (k + 1)).nx)
def dstIs (ops : Array Oper) (k t : Nat) : Prop := (ops[k]?).bind (·.dst) = some t
noncomputable def HD (n : Nat) (S : Nat → St) (Wr : Nat → List Nat) (H : Hp) (D : Nat → Bool) : Hp := fun x => match lastK (fun k => D k = true ∧ own S Wr k x) n with
  | some k => (S (k + 1)).H x
  | none => H x
noncomputable def SD (ops : Array Oper) (A : Nat → Tri AV) (D : Nat → Bool) (t : Nat) : Option AV := match lastK (fun k => D k = true ∧ dstIs ops k t) ops.size with
  | some k => (A (k + 1)).get (pt t)
  | none => (A 0).get (pt t)
theorem DReg.nx_mono (h : DReg w0 P N ops anc ro A S T Wr V) : ∀ (j i : Nat), i ≤ j → j ≤ ops.size → (S i).nx ≤ (S j).nx
  | 0, i, hi, _ => by have : i = 0 := by omega
                      subst this; exact Nat.le_refl _
  | j + 1, i, hi, hj => by
    by_cases e : i = j + 1
    · rw [e]; exact Nat.le_refl _
    · exact Nat.le_trans (h.nx_mono j i (by omega) (by omega)) (h.f j (by omega)).nx
/-- What lies in memory ahead of operation i. -/
theorem DReg.canonH (h : DReg w0 P N ops anc ro A S T Wr V) : ∀ (i : Nat), i ≤ ops.size → ∀ x, x < (S i).nx → (S i).H x = match lastK (fun k => own S Wr k x) i with
    | some k => (S (k + 1)).H x
    | none => (S 0).H x
  | 0, _, x, _ => rfl
  | i + 1, hi, x, hx => by
    simp only [lastK]
    by_cases ho : own S Wr i x
    · rw [if_pos ho]
    · rw [if_neg ho]
      unfold own at ho
      rw [not_or] at ho
      have hx' : x < (S i).nx := by
        rcases Nat.lt_or_ge x (S i).nx with h | h
        · exact h
        · exact absurd ⟨h, hx⟩ ho.2
      rw [(h.f i (by omega)).same x ho.1 hx']
      exact h.canonH i (by omega) x hx'
theorem DReg.none_lt (h : DReg w0 P N ops anc ro A S T Wr V) : ∀ (i : Nat), i ≤ ops.size → ∀ x, x < (S i).nx → lastK (fun k => own S Wr k x) i = none → x < (S 0).nx
  | 0, _, x, hx, _ => hx
  | i + 1, hi, x, hx, hl => by
    simp only [lastK] at hl
    split at hl
    · cases hl
    · rename_i ho
      unfold own at ho
      rw [not_or] at ho
      refine h.none_lt i (by omega) x ?_ hl
      rcases Nat.lt_or_ge x (S i).nx with h | h
      · exact h
      · exact absurd ⟨h, hx⟩ ho.2
theorem DReg.canonA (h : DReg w0 P N ops anc ro A S T Wr V) : ∀ (i : Nat), i ≤ ops.size → ∀ t, (A i).get (pt t) = match lastK (fun k => dstIs ops k t) i with
    | some k => (A (k + 1)).get (pt t)
    | none => (A 0).get (pt t)
  | 0, _, t => rfl
  | i + 1, hi, t => by
    simp only [lastK]
    obtain ⟨o, ho, _, hget, _⟩ := (h.f i (by omega)).op
    by_cases hd : dstIs ops i t
    · rw [if_pos hd]
    · rw [if_neg hd, hget t, if_neg]
      · exact h.canonA i (by omega) t
      · intro e
        exact hd (by unfold dstIs; rw [ho]; exact e)
/-- Down-closed: with an operation all that are told to come ahead of it are done. -/
def Down (n : Nat) (anc : Array Nat) (D : Nat → Bool) : Prop := ∀ k j, k < n → D k = true → (anc.getD k 0).testBit j = true → D j = true
/-- Which of two that are told to be ordered is done. -/
theorem DReg.order (h : DReg w0 P N ops anc ro A S T Wr V) {D : Nat → Bool} {i k : Nat} (hi : i < ops.size) (hk : k < ops.size) (hD : Down ops.size anc D) (hDi : D i = false) (hanc : ∀ j, (anc.getD i 0).testBit j = true → D j = true)
    (ho : i = k ∨ (anc.getD i 0).testBit k = true ∨ (anc.getD k 0).testBit i = true) : (k < i ∧ D k = true) ∨ (i ≤ k ∧ D k = false) := by
  rcases ho with rfl | ho | ho
  · exact .inr ⟨Nat.le_refl _, hDi⟩
  · exact .inl ⟨anc_lt h.ao hi ho, hanc k ho⟩
  · refine .inr ⟨Nat.le_of_lt (anc_lt h.ao hk ho), ?_⟩
    cases hk' : D k with
    | false => rfl
    | true => rw [hD k i hk hk' ho] at hDi; cases hDi
theorem DReg.lastW (h : DReg w0 P N ops anc ro A S T Wr V) {D : Nat → Bool} {i : Nat} (hi : i < ops.size) {p : Nat → Prop} (hp : ∀ k, k < ops.size → p k → (k < i ∧ D k = true) ∨ (i ≤ k ∧ D k = false)) : lastK (fun k => D k = true ∧ p k) ops.size = lastK p i := by
  rw [lastK_cut i ops.size (by omega) (fun k h1 h2 hq => by
    rcases hp k h2 hq.2 with h3 | h3
    · omega
    · rw [h3.2] at hq; cases hq.1)]
  refine lastK_congr i (fun k hk => ⟨fun hq => hq.2, fun hq => ⟨?_, hq⟩⟩)
  rcases hp k (by omega) hq with h3 | h3
  · exact h3.2
  · omega
theorem DReg.agree (h : DReg w0 P N ops anc ro A S T Wr V) {D : Nat → Bool} {i : Nat} {H : Hp} (hi : i < ops.size) (hD : Down ops.size anc D) (hDi : D i = false) (hanc : ∀ j, (anc.getD i 0).testBit j = true → D j = true)
    (hH : ∀ k, k < ops.size → ∀ x ∈ T k, x < (S 0).nx → H x = (S 0).H x) : Agree (HD ops.size S Wr H D) (S i) (T i) := by
  intro x hx hlt
  unfold HD
  rw [h.lastW hi (p := fun k => own S Wr k x) (fun k hk ho => h.order hi hk hD hDi hanc (h.clear i k x hi hk hx ho)), h.canonH i (by omega) x hlt]
  cases hl : lastK (fun k => own S Wr k x) i with
  | some k => rfl
  | none => exact hH i hi x hx (h.none_lt i (by omega) x hlt hl)
theorem DReg.slots (h : DReg w0 P N ops anc ro A S T Wr V) {D : Nat → Bool} {i : Nat} {o : Oper} (ho : ops[i]? = some o) (hD : Down ops.size anc D) (hDi : D i = false) (hanc : ∀ j, (anc.getD i 0).testBit j = true → D j = true) {t : Nat} (ht : t ∈ Proofs.YtjckgagkkknmnaaDoor.Rk.slots ops o) : SD ops A D t = (A i).get (pt t) := by
  obtain ⟨hi, _⟩ := Array.getElem?_eq_some_iff.1 ho
  unfold SD
  rw [h.lastW hi (p := fun k => dstIs ops k t) (fun k hk hd => by
    obtain ⟨q, hq⟩ : ∃ q, ops[k]? = some q := ⟨_, Array.getElem?_eq_getElem hk⟩
    have hd' : q.dst = some t := by unfold dstIs at hd; rw [hq] at hd; exact hd
    refine h.order hi hk hD hDi hanc ?_
    rcases apart_spec h.ap hq hd' ho ht with e | e | e
    · exact .inl e.symm
    · exact .inr (.inr e)
    · exact .inr (.inl e)), h.canonA i (by omega) t]
theorem DReg.after (h : DReg w0 P N ops anc ro A S T Wr V) {D : Nat → Bool} {i : Nat} {H : Hp} (hi : i < ops.size) (hD : Down ops.size anc D) (hDi : D i = false) (hanc : ∀ j, (anc.getD i 0).testBit j = true → D j = true) :
    HD ops.size S Wr H (fun k => if k = i then true else D k) = updH (HD ops.size S Wr H D) (S i) (S (i + 1)) (Wr i) := by
  funext x
  unfold updH
  by_cases ho : own S Wr i x
  · have ho' : x ∈ Wr i ∨ ((S i).nx ≤ x ∧ x < (S (i + 1)).nx) := ho
    rw [if_pos ho']
    unfold HD
    rw [lastK_at hi ⟨if_pos rfl, ho⟩ (fun k hik hk hq => ?_)]
    have hDk : D k = true := by have := hq.1; dsimp only at this; rw [if_neg (by omega)] at this; exact this
    have hord : i = k ∨ (anc.getD i 0).testBit k = true ∨ (anc.getD k 0).testBit i = true := by
      rcases ho with hw | hw
      · exact h.clear i k x hi hk ((h.f i hi).sub x hw).1 hq.2
      · rcases hq.2 with hw2 | hw2
        · rcases h.clear k i x hk hi ((h.f k hk).sub x hw2).1 (.inr hw) with e | e | e
          · exact .inl e.symm
          · exact .inr (.inr e)
          · exact .inr (.inl e)
        · have := h.nx_mono k (i + 1) (by omega) (by omega)
          omega
    rcases h.order hi hk hD hDi hanc hord with e | e
    · omega
    · rw [e.2] at hDk; cases hDk
  · have ho' : ¬ (x ∈ Wr i ∨ ((S i).nx ≤ x ∧ x < (S (i + 1)).nx)) := ho
    rw [if_neg ho']
    unfold HD
    have : lastK (fun k => (if k = i then true else D k) = true ∧ own S Wr k x) ops.size = lastK (fun k => D k = true ∧ own S Wr k x) ops.size := by
      refine lastK_congr _ (fun k _ => ?_)
      by_cases hk : k = i
      · subst hk
        simp [ho]
      · simp [hk]
    rw [this]
theorem DReg.slotAfter (h : DReg w0 P N ops anc ro A S T Wr V) {D : Nat → Bool} {i : Nat} {o : Oper} (ho : ops[i]? = some o) (hD : Down ops.size anc D) (hDi : D i = false) (hanc : ∀ j, (anc.getD i 0).testBit j = true → D j = true) (t : Nat) :
    SD ops A (fun k => if k = i then true else D k) t = if o.dst = some t then some (V i) else SD ops A D t := by
  obtain ⟨hi, _⟩ := Array.getElem?_eq_some_iff.1 ho
  obtain ⟨o', ho', _, hget, _⟩ := (h.f i hi).op
  rw [ho] at ho'
  cases ho'
  by_cases hd : o.dst = some t
  · rw [if_pos hd]
    unfold SD
    rw [lastK_at hi ⟨if_pos rfl, by unfold dstIs; rw [ho]; exact hd⟩ (fun k hik hk hq => ?_)]
    · show (A (i + 1)).get (pt t) = _
      rw [hget, if_pos hd]
    · have hDk : D k = true := by have := hq.1; dsimp only at this; rw [if_neg (by omega)] at this; exact this
      obtain ⟨q, hq'⟩ : ∃ q, ops[k]? = some q := ⟨_, Array.getElem?_eq_getElem hk⟩
      have hd' : q.dst = some t := by have := hq.2; unfold dstIs at this; rw [hq'] at this; exact this
      have hord : i = k ∨ (anc.getD i 0).testBit k = true ∨ (anc.getD k 0).testBit i = true := apart_spec h.ap ho hd hq' (by unfold Proofs.YtjckgagkkknmnaaDoor.Rk.slots; simp [hd'])
      rcases h.order hi hk hD hDi hanc hord with e | e
      · omega
      · rw [e.2] at hDk; cases hDk
  · rw [if_neg hd]
    unfold SD
    have : lastK (fun k => (if k = i then true else D k) = true ∧ dstIs ops k t) ops.size = lastK (fun k => D k = true ∧ dstIs ops k t) ops.size := by
      refine lastK_congr _ (fun k _ => ?_)
      by_cases hk : k = i
      · subst hk
        have : ¬ dstIs ops k t := by unfold dstIs; rw [ho]; exact hd
        simp [this]
      · simp [hk]
    rw [this]
/-- What holds between two operations, those in D being done. -/
structure DInv (w0 : World) (P : Program) (N : Nat) (ops : Array Oper) (anc : Array Nat) (A : Nat → Tri AV) (S : Nat → St) (Wr : Nat → List Nat) (H : Hp) (m0 : Tl) (W0 : World) (act0 : Act) (D : Nat → Bool) (m : Tl) (act : Act) (W : World) : Prop where
  down : Down ops.size anc D
  ext : MExt m0 m
  out : ∀ x, ¬ ((S 0).nx ≤ x ∧ x < (S ops.size).nx) → m x = m0 x
  fresh : ∀ k, k < ops.size → D k = false → ∀ x, (S k).nx ≤ x → x < (S (k + 1)).nx → m x = none
  good : Good w0 P P.globals.size m (HD ops.size S Wr H D) W
  size : N ≤ act.tmps.size
  slot : ∀ t v, SD ops A D t = some v → ∃ u, act.tmps[t]? = some u ∧ VR m v u
  defers : act.defers = act0.defers
  frame : ∀ (b : Nat) (ob : Obj), W0.heap[b]? = some ob → (∀ k, k < ops.size → D k = true → ∀ x ∈ Wr k, x < (S 0).nx → m0 x ≠ some b) → W.heap[b]? = some ob
  new : ∀ x b, (S 0).nx ≤ x → x < (S ops.size).nx → m x = some b → W0.heap[b]? = none ∨ ∃ k, k < ops.size ∧ D k = true ∧ ∃ y ∈ Wr k, y < (S 0).nx ∧ m0 y = some b
  rest : SameOut W0 W
theorem DReg.step (h : DReg w0 P N ops anc ro A S T Wr V) {H : Hp} {m0 : Tl} {W0 : World} {act0 : Act} {Q : Exit → Act → World → Prop} (hH : ∀ k, k < ops.size → ∀ x ∈ T k, x < (S 0).nx → H x = (S 0).H x) (D : Nat → Bool) (i : Nat) (o : Oper) (act : Act) (W : World) (ho : ops[i]? = some o) (hDi : D i = false)
    (hdep : ∀ e ∈ o.after.toList, Region.binds .any e = true → D e.on = true) (hI : ∃ m, DInv w0 P N ops anc A S Wr H m0 W0 act0 D m act W) :
    wpOpIn (wf ro) 0 P ops Q i (fun act' W' => ∃ m, DInv w0 P N ops anc A S Wr H m0 W0 act0 (fun k => if k = i then true else D k) m act' W') act W := by
  obtain ⟨m, I⟩ := hI
  obtain ⟨hi, _⟩ := Array.getElem?_eq_some_iff.1 ho
  have hanc : ∀ j, (anc.getD i 0).testBit j = true → D j = true := by
    intro j hj
    obtain ⟨e, he, hb, h1 | h1⟩ := anc_dep h.ao ho hj
    · rw [← h1]; exact hdep e he hb
    · have hDe := hdep e he hb
      have hbk := List.all_eq_true.1 h.bk i (List.mem_range.2 hi)
      rw [ho] at hbk
      have hbk := List.all_eq_true.1 hbk e he
      rw [hb] at hbk
      simp only [Bool.not_true, Bool.false_or, decide_eq_true_eq] at hbk
      exact I.down e.on j (by omega) hDe h1
  obtain ⟨o', ho', hdN, hget, hop⟩ := (h.f i hi).op
  rw [ho] at ho'
  cases ho'
  have h0n : (S 0).nx ≤ (S i).nx := h.nx_mono i 0 (by omega) (by omega)
  have hii := (h.f i hi).nx
  have hin : (S (i + 1)).nx ≤ (S ops.size).nx := h.nx_mono ops.size (i + 1) (by omega) (Nat.le_refl _)
  refine hop m (HD ops.size S Wr H D) W act _ Q I.good (h.agree hi I.down hDi hanc hH) (I.fresh i hi hDi) (fun t ht v hv => ?_) (fun m' v' W' hst hv' => ⟨m', ?_⟩)
  · refine I.slot t v ?_
    rw [h.slots ho I.down hDi hanc (by
      rcases List.mem_append.1 ht with h1 | h1
      · exact List.mem_append.2 (.inl (List.mem_append.2 (.inr h1)))
      · exact List.mem_append.2 (.inr h1))]
    exact hv
  · constructor
    case down =>
      intro k j hk hDk hb
      by_cases hki : k = i
      · subst hki
        by_cases hji : j = k
        · simp [hji]
        · simp only [if_neg hji]; exact hanc j hb
      · simp only [if_neg hki] at hDk
        by_cases hji : j = i
        · simp [hji]
        · simp only [if_neg hji]; exact I.down k j hk hDk hb
    case ext => exact I.ext.trans hst.ext
    case rest => exact I.rest.trans hst.rest
    case out =>
      intro x hx
      rw [hst.out x (by omega), I.out x hx]
    case fresh =>
      intro k hk hDk x h1 h2
      by_cases hki : k = i
      · subst hki; simp at hDk
      · simp only [if_neg hki] at hDk
        have hdis : ¬ ((S i).nx ≤ x ∧ x < (S (i + 1)).nx) := by
          rcases Nat.lt_or_ge k i with hlt | hge
          · have := h.nx_mono i (k + 1) (by omega) (by omega)
            omega
          · have := h.nx_mono k (i + 1) (by omega) (by omega)
            omega
        rw [hst.out x hdis]
        exact I.fresh k hk hDk x h1 h2
    case good => rw [h.after hi I.down hDi hanc]; exact hst.good
    case size =>
      cases hd : o.dst with
      | none => exact I.size
      | some d => simp [Act.put]; exact I.size
    case slot =>
      intro t v hv
      rw [h.slotAfter ho I.down hDi hanc t] at hv
      by_cases hd : o.dst = some t
      · rw [if_pos hd] at hv
        cases hv
        have := hdN t hd
        exact ⟨v', by rw [hd]; simp [Act.put, Array.getElem?_setIfInBounds, Nat.lt_of_lt_of_le this I.size], hv'⟩
      · rw [if_neg hd] at hv
        obtain ⟨u, hu, hvu⟩ := I.slot t v hv
        refine ⟨u, ?_, hvu.mono hst.ext⟩
        cases hd' : o.dst with
        | none => exact hu
        | some d =>
          have : d ≠ t := fun e => hd (by rw [hd', e])
          simp [Act.put, Array.getElem?_setIfInBounds, this, hu]
    case defers => rw [← I.defers]; cases o.dst <;> rfl
    case frame =>
      intro b ob hb hne
      have hne' : ∀ k, k < ops.size → D k = true → ∀ x ∈ Wr k, x < (S 0).nx → m0 x ≠ some b := fun k hk hDk x hx hlt => hne k hk (by by_cases hki : k = i <;> simp [hki, hDk]) x hx hlt
      have hbW := I.frame b ob hb hne'
      refine hst.frame b ob hbW (fun x hx hlt e => ?_)
      rcases Nat.lt_or_ge x (S 0).nx with hx0 | hx0
      · rw [I.out x (by omega)] at e
        exact hne i hi (by simp) x hx hx0 e
      · rcases I.new x b hx0 (by omega) e with h1 | ⟨k, hk, hDk, y, hy, hylt, hyb⟩
        · rw [hb] at h1; cases h1
        · exact hne' k hk hDk y hy hylt hyb
    case new =>
      intro x b h1 h2 hxb
      have hup : (∃ k, k < ops.size ∧ D k = true ∧ ∃ y ∈ Wr k, y < (S 0).nx ∧ m0 y = some b) → ∃ k, k < ops.size ∧ (if k = i then true else D k) = true ∧ ∃ y ∈ Wr k, y < (S 0).nx ∧ m0 y = some b := by
        rintro ⟨k, hk, hDk, hy⟩
        exact ⟨k, hk, by by_cases hki : k = i <;> simp [hki, hDk], hy⟩
      by_cases hxi : (S i).nx ≤ x ∧ x < (S (i + 1)).nx
      · rcases hst.new x b hxi.1 hxi.2 hxb with h3 | ⟨y, hy, hylt, hyb⟩
        · cases hb0 : W0.heap[b]? with
          | none => exact .inl rfl
          | some ob =>
            right
            refine hup (Classical.byContradiction fun hno => ?_)
            have := I.frame b ob hb0 (fun k hk hDk y hy hylt e => hno ⟨k, hk, hDk, y, hy, hylt, e⟩)
            rw [h3] at this; cases this
        · rcases Nat.lt_or_ge y (S 0).nx with hy0 | hy0
          · rw [I.out y (by omega)] at hyb
            exact .inr ⟨i, hi, by simp, y, hy, hy0, hyb⟩
          · rcases I.new y b hy0 (by omega) hyb with h3 | h3
            · exact .inl h3
            · exact .inr (hup h3)
      · rw [hst.out x hxi] at hxb
        rcases I.new x b h1 h2 hxb with h3 | h3
        · exact .inl h3
        · exact .inr (hup h3)
/-- A region that draws its order. -/
theorem regD_ok {cl yl : Nat → List AV → St → Option (AV × St)} {es : List EOper} {a a' : Tri AV} {s s' : St} {id : Nat} (hcl : ClOk w0 P cl) (hyl : YlOk w0 P yl) (hmix : P.follows .mixedOrders = true) (hback : backs ops = true) (hapart : apartOk ops anc = true) (hanc : ancOk ops anc = true)
    (hc : cOpers P N ops anc ops.toList 0 = some es) (h : evRegD cl yl es a s = some (a', s')) :
    ∃ T Wr, Seg s s' T Wr ∧ ∀ (m : Tl) (H : Hp) (W : World) (act : Act) (Q : Exit → Act → World → Prop), Good w0 P P.globals.size m H W → Agree H s T → Fresh m s s' → AT N m a act.tmps →
      (∀ m' act' W', Stp w0 P P.globals.size s s' Wr m m' H W W' → AT N m' a' act'.tmps → act'.defers = act.defers → Q .normal act' W') → (Code.region id ops true).wpIn (wf ro) 0 P Q act W := by
  obtain ⟨⟨rs, a1, s1⟩, hrun, h_⟩ := ob_some h; clear h; have h := h_; clear h_
  obtain ⟨hclear, h_⟩ := rec_some h; clear h; have h := h_; clear h_
  cases h
  obtain ⟨A, S, T, Wr, V, e1, e2, e3, e4, e5, e6, _, ⟨TT, e8, e8'⟩, ⟨WW, e9, e9'⟩⟩ := opsD_facts (ro := ro) hcl hyl ops.toList 0 es [] rs a a' s s' (fun k => by simp) hc hrun
  simp only [Array.length_toList, Nat.zero_add] at e3 e4 e5 e6 e8' e9'
  have hmono : ∀ (d i : Nat), i + d ≤ ops.size → (S i).nx ≤ (S (i + d)).nx := by
    intro d
    induction d with
    | zero => intro i _; exact Nat.le_refl _
    | succ d ih =>
      intro i h1
      exact Nat.le_trans (ih i (by omega)) (e5 (i + d) (Nat.zero_le _) (by omega)).nx
  have hreg : DReg w0 P N ops anc ro A S T Wr V := ⟨fun k hk => e5 k (Nat.zero_le _) hk, fun i k x hi hk hx ho => clearT_spec hclear (e6 i (Nat.zero_le _) hi) (e6 k (Nat.zero_le _) hk) (fun n hn => ((e5 k (Nat.zero_le _) hk).sub n hn).1)
    (fun hne => by
      rcases Nat.lt_or_gt_of_ne (show i ≠ k from hne) with h1 | h1
      · have := hmono (k - (i + 1)) (i + 1) (by omega)
        rw [show i + 1 + (k - (i + 1)) = k by omega] at this
        exact .inl this
      · have := hmono (i - (k + 1)) (k + 1) (by omega)
        rw [show k + 1 + (i - (k + 1)) = i by omega] at this
        exact .inr this) hx ho, hanc, hapart, hback⟩
  have hS0H : (S 0).H = s.H := by rw [e2]; rfl
  have hS0n : (S 0).nx = s.nx := by rw [e2]; rfl
  have hSnH : (S ops.size).H = s'.H := by rw [e4]; rfl
  have hSnn : (S ops.size).nx = s'.nx := by rw [e4]; rfl
  have hwin : ∀ x, x ∈ WW → x ∈ TT ∧ x < s'.nx := by
    intro x hx
    obtain ⟨k, _, hk, hxk⟩ := (e9' x).1 hx
    have h1 := (hreg.f k hk).sub x hxk
    refine ⟨(e8' x).2 ⟨k, Nat.zero_le _, hk, h1.1⟩, ?_⟩
    rw [← hSnn]
    exact Nat.lt_of_lt_of_le h1.2 (hreg.nx_mono ops.size (k + 1) (by omega) (Nat.le_refl _))
  have hown : ∀ x, (∃ k, k < ops.size ∧ own S Wr k x) ↔ (x ∈ WW ∨ (s.nx ≤ x ∧ x < s'.nx)) := by
    intro x
    constructor
    · rintro ⟨k, hk, h1 | h1⟩
      · exact .inl ((e9' x).2 ⟨k, Nat.zero_le _, hk, h1⟩)
      · refine .inr ⟨?_, ?_⟩
        · rw [← hS0n]; exact Nat.le_trans (hreg.nx_mono k 0 (by omega) (by omega)) h1.1
        · rw [← hSnn]; exact Nat.lt_of_lt_of_le h1.2 (hreg.nx_mono ops.size (k + 1) (by omega) (Nat.le_refl _))
    · rintro (h1 | h1)
      · obtain ⟨k, _, hk, hxk⟩ := (e9' x).1 h1
        exact ⟨k, hk, .inl hxk⟩
      · refine Classical.byContradiction fun hno => ?_
        have hnone : lastK (fun k => own S Wr k x) ops.size = none := by
          cases hl : lastK (fun k => own S Wr k x) ops.size with
          | none => rfl
          | some k => exact absurd ⟨k, lastK_some ops.size k hl⟩ hno
        have := hreg.none_lt ops.size (Nat.le_refl _) x (by rw [hSnn]; exact h1.2) hnone
        rw [hS0n] at this
        omega
  have hseg : Seg s s' TT WW := by
    refine ⟨e8, e9, hwin, ?_, fun x hx hlt => ?_⟩
    · rw [← hS0n, ← hSnn]; exact hreg.nx_mono ops.size 0 (Nat.zero_le _) (Nat.le_refl _)
    · have hlt' : x < (S ops.size).nx := by rw [hSnn]; have := hreg.nx_mono ops.size 0 (Nat.zero_le _) (Nat.le_refl _); rw [hS0n, hSnn] at this; omega
      have hnone : lastK (fun k => own S Wr k x) ops.size = none := by
        cases hl : lastK (fun k => own S Wr k x) ops.size with
        | none => rfl
        | some k =>
          exfalso
          rcases (hown x).1 ⟨k, lastK_some ops.size k hl⟩ with h1 | h1
          · exact hx h1
          · omega
      have := hreg.canonH ops.size (Nat.le_refl _) x hlt'
      rw [hnone] at this
      rw [← hSnH, this, hS0H]
  refine ⟨TT, WW, hseg, fun m H W act Q hg ha hf hat hQ => ?_⟩
  have hH : ∀ k, k < ops.size → ∀ x ∈ T k, x < (S 0).nx → H x = (S 0).H x := fun k hk x hx hlt => by
    rw [hS0H]
    exact ha x ((e8' x).2 ⟨k, Nat.zero_le _, hk, hx⟩) (by rw [← hS0n]; exact hlt)
  refine wpIn_region_any hmix ?_
  refine wpAnyIn_inv (fun D act' W' => ∃ m', DInv w0 P N ops anc A S Wr H m W act D m' act' W') hback (fun D i o act' W' ho hDi hdep hI => hreg.step hH D i o act' W' ho hDi hdep hI) (fun D act' W' hI hD => ?_) ops.size (Array.replicate ops.size false) act _ (by simp) (Nat.le_trans (List.length_filter_le _ _) (by simp)) ?_
  · obtain ⟨m', I⟩ := hI
    refine hQ m' act' W' ⟨I.ext, fun x hx => I.out x (by rw [hS0n, hSnn]; exact hx), fun x b h1 h2 hb => ?_, ?_, fun b ob hb hne => I.frame b ob hb (fun k hk _ x hx hlt => hne x ((e9' x).2 ⟨k, Nat.zero_le _, hk, hx⟩) (by rw [← hS0n]; exact hlt)), I.rest⟩ ⟨I.size, fun t v hv => ?_⟩ I.defers
    · rcases I.new x b (by rw [hS0n]; exact h1) (by rw [hSnn]; exact h2) hb with h3 | ⟨k, hk, _, y, hy, hylt, hyb⟩
      · exact .inl h3
      · exact .inr ⟨y, (e9' y).2 ⟨k, Nat.zero_le _, hk, hy⟩, by rw [← hS0n]; exact hylt, hyb⟩
    · have : HD ops.size S Wr H D = updH H s s' WW := by
        funext x
        unfold HD updH
        have hall : lastK (fun k => D k = true ∧ own S Wr k x) ops.size = lastK (fun k => own S Wr k x) ops.size := lastK_congr _ (fun k hk => ⟨fun h => h.2, fun h => ⟨hD k hk, h⟩⟩)
        rw [hall]
        by_cases hx : x ∈ WW ∨ (s.nx ≤ x ∧ x < s'.nx)
        · rw [if_pos hx]
          obtain ⟨k, hk, hok⟩ := (hown x).2 hx
          cases hl : lastK (fun k => own S Wr k x) ops.size with
          | none => exact absurd hok (lastK_none ops.size hl k hk)
          | some j =>
            have hlt' : x < (S ops.size).nx := by
              rw [hSnn]
              rcases hx with h1 | h1
              · exact (hwin x h1).2
              · exact h1.2
            have := hreg.canonH ops.size (Nat.le_refl _) x hlt'
            rw [hl] at this
            rw [← hSnH, this]
        · rw [if_neg hx]
          cases hl : lastK (fun k => own S Wr k x) ops.size with
          | none => rfl
          | some j => exact absurd ((hown x).1 ⟨j, lastK_some ops.size j hl⟩) hx
      rw [← this]; exact I.good
    · refine I.slot t v ?_
      have hall : lastK (fun k => D k = true ∧ dstIs ops k t) ops.size = lastK (fun k => dstIs ops k t) ops.size := lastK_congr _ (fun k hk => ⟨fun h => h.2, fun h => ⟨hD k hk, h⟩⟩)
      unfold SD
      rw [hall, ← hreg.canonA ops.size (Nat.le_refl _) t, e3]
      exact hv
  · have hfalse : ∀ k, (Array.replicate ops.size false).getD k false = false := fun k => by simp [Array.getD]
    refine ⟨m, ⟨(fun k j _ hDk _ => by simp only [hfalse] at hDk; cases hDk), MExt.refl m, fun _ _ => rfl, fun k hk _ x h1 h2 => ?_, ?_, hat.1, fun t v hv => ?_, rfl, fun b ob hb _ => hb, fun x b h1 h2 hb => ?_, ⟨rfl, rfl, rfl⟩⟩⟩
    · refine hf x ?_ ?_
      · rw [← hS0n]; exact Nat.le_trans (hreg.nx_mono k 0 (by omega) (by omega)) h1
      · rw [← hSnn]; exact Nat.lt_of_lt_of_le h2 (hreg.nx_mono ops.size (k + 1) (by omega) (Nat.le_refl _))
    · have : HD ops.size S Wr H (fun k => (Array.replicate ops.size false).getD k false) = H := by
        funext x
        unfold HD
        have hn : lastK (fun k => (Array.replicate ops.size false).getD k false = true ∧ own S Wr k x) ops.size = none := by
          cases hl : lastK (fun k => (Array.replicate ops.size false).getD k false = true ∧ own S Wr k x) ops.size with
          | none => rfl
          | some k => have := (lastK_some ops.size k hl).2.1; rw [hfalse] at this; cases this
        rw [hn]
      rw [this]
      exact hg.of_heap rfl
    · unfold SD at hv
      have hn : lastK (fun k => (Array.replicate ops.size false).getD k false = true ∧ dstIs ops k t) ops.size = none := by
        cases hl : lastK (fun k => (Array.replicate ops.size false).getD k false = true ∧ dstIs ops k t) ops.size with
        | none => rfl
        | some k => have := (lastK_some ops.size k hl).2.1; rw [hfalse] at this; cases this
      rw [hn, e1] at hv
      exact hat.2 t v hv
    · have := hf x (by rw [← hS0n]; exact h1) (by rw [← hSnn]; exact h2)
      rw [this] at hb; cases hb
end
end Go.Proofs.YtjckgagkkknmnaaDoor.Rk
/-
  Reckoning a program in the kernel: statements, calls, rounds. Nothing of the program.
-/
namespace Go.Proofs.YtjckgagkkknmnaaDoor.Rk
set_option linter.unusedVariables false
set_option linter.unusedSimpArgs false
open Go
set_option maxHeartbeats 2000000
set_option linter.unusedSimpArgs false

section
variable {w0 : World} {P : Program} {ft : Tri EFn} {a a' : Tri AV} {s s' : St} {m : Tl} {H : Hp} {W : World}
def outE : Out → Exit
  | .norm => .normal
  | .exit id => .exit id
  | .ret => .ret
/-- The marks among the deferred calls. -/
def DS (m : Tl) : List Nat → List Deferred → Prop
  | [], [] => True
  | d :: ds, x :: xs => (∃ b, m d = some b ∧ x = { target := .collected b, args := #[] }) ∧ DS m ds xs
  | _, _ => False
theorem DS.mono {m m' : Tl} (hm : MExt m m') : ∀ {ds : List Nat} {xs : List Deferred}, DS m ds xs → DS m' ds xs
  | [], [], _ => trivial
  | _ :: _, _ :: _, ⟨⟨b, h1, h2⟩, h3⟩ => ⟨⟨b, (hm _ _ h1).1, h2⟩, h3.mono hm⟩
  | [], _ :: _, h => h.elim
  | _ :: _, [], h => h.elim
/-- What is reckoned of code holds of it in the model. -/
def CodeG (w0 : World) (P : Program) (N : Nat) (rd : Bool) (c : Code) (e : Out) (a a' : Tri AV) (ds ds' : List Nat) (s s' : St) : Prop :=
  ∃ T Wr, Seg s s' T Wr ∧ ∀ (ro : Option Nat) (m : Tl) (H : Hp) (W : World) (act : Act) (Q : Exit → Act → World → Prop), (rd = false → ro = none) → Good w0 P P.globals.size m H W → Agree H s T → Fresh m s s' → AT N m a act.tmps → DS m ds act.defers →
    (∀ m' act' W', Stp w0 P P.globals.size s s' Wr m m' H W W' → AT N m' a' act'.tmps → DS m' ds' act'.defers → Q (outE e) act' W') → c.wpIn (wf ro) 0 P Q act W
def CodeOk (w0 : World) (P : Program) (ih : Nat → Nat → Bool → ECode → Tri AV → List Nat → St → Rz) : Prop :=
  ∀ fid N rd c a ds s e a' ds' s', ih fid N rd (cCode P N c) a ds s = .ok e a' ds' s' → CodeG w0 P N rd c e a a' ds ds' s s'
theorem CodeG.refl {N : Nat} {rd : Bool} {c : Code} {e : Out} {ds : List Nat} (h : ∀ ro act W (Q : Exit → Act → World → Prop), Q (outE e) act W → c.wpIn (wf ro) 0 P Q act W) : CodeG w0 P N rd c e a a ds ds s s :=
  ⟨[], [], Seg.refl s, fun ro m H W act Q _ hg ha hf hat hds hQ => h ro act W Q (hQ m act W (Stp.refl hg) hat hds)⟩
theorem wpIn_scope_straight {ro : Option Nat} {n : Nat} {c : Code} {Q : Exit → Act → World → Prop} {act : Act} {w : World} (h : c.wpIn (wf ro) n P (Exit.noGoto Q) act w) : (Code.scope c).wpIn (wf ro) n P Q act w := by
  intro b k cs hro hb hr
  have s1 : step P (lone (b.atR act (.code (.scope c) :: k)) cs w) = .next (lone (b.atR act (.code c :: .inScope c :: k)) cs w) := step_lone_go (by simp [stepG, stepG.exec, Frame.atR])
  have s2 : ∀ a' w', step P (lone (b.atR a' (.inScope c :: k)) cs w') = .next (lone (b.atR a' k) cs w') := fun a' w' => step_lone_go (by simp [stepG, stepG.exec, Frame.atR])
  have h0 : (lone (b.atR act (.code (.scope c) :: k)) cs w).fenced P (wf ro) := fenced_calm hb hr rfl
  obtain ⟨e, a₁, w₁, hq, harr⟩ := h b (.inScope c :: k) cs hro hb hr
  cases e with
  | normal => exact ⟨.normal, a₁, w₁, hq, .head h0 s1 (StepsIn.trans harr (.one (fenced_calm hb hr rfl) (s2 a₁ w₁)))⟩
  | exit id =>
    have hx : exitTo id (.inScope c :: k) = exitTo id k := by simp [exitTo]
    exact ⟨.exit id, a₁, w₁, hq, fun k' hk => .head h0 s1 (harr.1 k' (by rw [hx]; exact hk)), fun hr' hk => let ⟨k₁, h1, h2⟩ := harr.2 hr' (by rw [hx]; exact hk); ⟨k₁, h1, .head h0 s1 h2⟩⟩
  | goto l => exact hq.elim
  | ret => exact ⟨_, a₁, w₁, hq, .of_steps (.one h0 s1) harr⟩
  | panic ch => exact ⟨_, a₁, w₁, hq, .of_steps (.one h0 s1) harr⟩
  | outgrown => exact ⟨_, a₁, w₁, hq, .of_steps (b := b) (k := k) (cs := cs) (e := .outgrown) (.one h0 s1) harr⟩
theorem noGoto_out {Q : Exit → Act → World → Prop} {e : Out} {act : Act} {w : World} (h : Q (outE e) act w) : Exit.noGoto Q (outE e) act w := by cases e <;> exact h
/-! ### Loops, unrolled -/
/-- A loop that comes out by its own k rounds. -/
def LoopsOut (P : Program) (ro : Option Nat) (c : Code) (Q : Exit → Act → World → Prop) : Nat → Act → World → Prop
  | 0, _, _ => False
  | k + 1, act, w => c.wpIn (wf ro) 0 P (Exit.then (LoopsOut P ro c Q k) Q) act w
theorem wpIn_loop_out {ro : Option Nat} {c : Code} {Q : Exit → Act → World → Prop} {act : Act} {w : World} {n : Nat} (h : LoopsOut P ro c Q n act w) : (Code.loop c).wpIn (wf ro) 0 P Q act w := by
  intro b k cs hro hb hr
  have key : ∀ j a w, LoopsOut P ro c Q j a w → ∃ e a' w', Q e a' w' ∧ ArrivesIn (Machine.fenced P (wf ro)) P (lone (b.atR a (.code c :: .inLoop c :: k)) cs w) b k cs e a' w' := by
    intro j
    induction j with
    | zero => intro a w h; exact h.elim
    | succ j ih =>
      intro a w h
      obtain ⟨e, a₁, w₁, hq, harr⟩ := h b (.inLoop c :: k) cs hro hb hr
      cases e with
      | normal =>
        obtain ⟨e₂, a₂, w₂, hq₂, harr₂⟩ := ih a₁ w₁ hq
        exact ⟨e₂, a₂, w₂, hq₂, .of_steps (StepsIn.trans harr (.one (fenced_calm hb hr rfl) stepR_inLoop)) harr₂⟩
      | exit id => exact ⟨_, a₁, w₁, hq, .pass (x := .inLoop c) rfl (fun _ _ => .inl (by simp)) harr⟩
      | goto l => exact ⟨_, a₁, w₁, hq, .pass (x := .inLoop c) rfl (fun _ _ => .inl (by simp)) harr⟩
      | ret => exact ⟨_, a₁, w₁, hq, .pass (x := .inLoop c) rfl (fun _ _ => .inl (by simp)) harr⟩
      | panic ch => exact ⟨_, a₁, w₁, hq, .pass (x := .inLoop c) rfl (fun _ _ => .inl (by simp)) harr⟩
      | outgrown => exact ⟨_, a₁, w₁, hq, .pass (x := .inLoop c) rfl (fun _ _ => .inl (by simp)) harr⟩
  obtain ⟨e, a', w', hq, harr⟩ := key n act w h
  exact ⟨e, a', w', hq, .of_steps (.one (fenced_calm hb hr rfl) stepR_loop) harr⟩
end
end Go.Proofs.YtjckgagkkknmnaaDoor.Rk
/-
  Reckoning a program in the kernel: a call of a function, a round of a range over a function. Nothing of the program.
-/
namespace Go.Proofs.YtjckgagkkknmnaaDoor.Rk
set_option linter.unusedVariables false
set_option linter.unusedSimpArgs false
open Go Go.RowKit
set_option maxHeartbeats 2000000
set_option linter.unusedSimpArgs false

section
variable {w0 : World} {P : Program} {ft : Tri EFn} {a a' : Tri AV} {s s' : St} {m : Tl} {H : Hp} {W : World}
theorem argT_get : ∀ (args : List AV) (i : Nat) (t : Tri AV) (k : Nat), (argT args i t).get (pt k) = if i ≤ k then (match args[k - i]? with | some v => some v | none => t.get (pt k)) else t.get (pt k)
  | [], i, t, k => by
    show t.get (pt k) = _
    split <;> simp
  | v :: args, i, t, k => by
    have : argT (v :: args) i t = argT args (i + 1) (t.set (some v) (pt i)) := rfl
    rw [this, argT_get args (i + 1) _ k]
    by_cases hik : i + 1 ≤ k
    · rw [if_pos hik, if_pos (by omega)]
      have e : k - i = (k - (i + 1)) + 1 := by omega
      rw [e, List.getElem?_cons_succ]
      cases args[k - (i + 1)]? with
      | some u => rfl
      | none => exact Tri.set_other _ _ _ _ (fun q => by have := pt_inj q; omega)
    · rw [if_neg hik]
      by_cases he : i = k
      · subst he
        rw [if_pos (Nat.le_refl _), Nat.sub_self]
        simp only [List.getElem?_cons_zero]
        exact Tri.set_same _ _ _
      · rw [if_neg (by omega)]
        exact Tri.set_other _ _ _ _ (fun q => he (pt_inj q))
theorem AT.args {N : Nat} {args : List AV} {vals : List Value} (h : LR m args vals) : AT N m (argT args 0 .leaf) ((Array.mk vals) ++ Array.replicate (N - (Array.mk vals).size) undef) := by
  refine ⟨by simp; omega, fun t v hv => ?_⟩
  rw [argT_get, if_pos (Nat.zero_le _), Nat.sub_zero] at hv
  cases ha : args[t]? with
  | none => rw [ha] at hv; rw [Tri.get_leaf] at hv; cases hv
  | some u =>
    rw [ha] at hv
    cases hv
    obtain ⟨w, hw, hvr⟩ := h.get ha
    have hlt := (List.getElem?_eq_some_iff.1 hw).1
    exact ⟨w, by rw [Array.getElem?_append_left (by simpa using hlt)]; simpa using hw, hvr⟩
/-- The marks are come to. -/
theorem takeD_spec : ∀ {ds : List Nat} {s s' : St}, takeD ds s = some s' → ∃ T Wr, Seg s s' T Wr ∧ s'.nx = s.nx ∧ ∀ (m : Tl) (H : Hp) (W : World) (xs : List Deferred) (fn : Func) (tmps : Array Value) (R : Ending → World → Prop), Good w0 P P.globals.size m H W → Agree H s T → DS m ds xs →
    (∀ W', Stp w0 P P.globals.size s s' Wr m m H W W' → ∃ v, (results fn tmps).run P W' = .ok v W' ∧ R (.returned v) W') → LeavesInM Fence.wide 0 P fn tmps R xs .returning W
  | [], s, s', h => by
    cases h
    refine ⟨[], [], Seg.refl s, rfl, fun m H W xs fn tmps R hg ha hds hR => ?_⟩
    cases xs with
    | nil => exact hR W (Stp.refl hg)
    | cons x xs => exact hds.elim
  | d :: ds, s, s', h => by
    obtain ⟨⟨o, s1⟩, hlk, h_⟩ := ob_some h; clear h; have h := h_; clear h_
    cases o <;> try (cases h; done)
    obtain ⟨s2, hput, h_⟩ := ob_some h; clear h; have h := h_; clear h_
    obtain ⟨hlt, _, hseg, _, hnx⟩ := look_spec hlk
    obtain ⟨_, hseg2, hnx2, _⟩ := putO_spec hput
    obtain ⟨T3, W3, hseg3, hnx3, hrest⟩ := takeD_spec (ds := ds) (s := s2) (s' := s') h
    have g12 := hseg.trans hseg2
    refine ⟨T3 ++ ([d] ++ [d]), W3 ++ ([d] ++ []), g12.trans hseg3, by omega, fun m H W xs fn tmps R hg ha hds hR => ?_⟩
    cases xs with
    | nil => exact hds.elim
    | cons x xs =>
      obtain ⟨⟨b, hb, rfl⟩, hds⟩ := hds
      obtain ⟨b', obj, hb', hob, hor, hne, _⟩ := look_obj hlk rfl (T := T3 ++ ([d] ++ [d])) ha (by simp) hg
      rw [hb] at hb'; cases hb'
      cases hor
      obtain ⟨hblt, _⟩ := Array.getElem?_eq_some_iff.1 hob
      have htake : (Instr.takeDeferred b).run P W = .ok [] (W.putObj b (.deferred none)) := run_takeDeferred hob
      have hst : Stp w0 P P.globals.size s s2 ([d] ++ []) m m H W (W.putObj b (.deferred none)) := by
        have := Stp.put (w0 := w0) (P := P) (G := P.globals.size) (s := s1) hput hg (by rw [hne]; rfl) hb (W' := W.putObj b (.deferred none)) (fun k hk => World.putObj_heap_other hk) (fun x hx => by cases hx)
        simpa using Stp.after hseg hnx hseg2 hg this
      refine ⟨by simp, .inl ⟨b, _, rfl, htake, ?_⟩⟩
      refine hrest m _ _ xs fn tmps R hst.good (ha.left g12) hds (fun W' hst' => hR W' (Stp.trans g12 hseg3 hst hst'))
def resF (tmps : Array Value) : ResultVar → Sem Value
  | .tmp t => pure (tmps.getD t undef)
  | .cell a t => do loadVar t (← asAddr (tmps.getD a undef))
theorem results_eq (fn : Func) (tmps : Array Value) : results fn tmps = (do let vs ← fn.results.mapM (resF tmps); pure (if h : vs.size = 1 then vs[0] else .tuple vs)) := by
  unfold results
  congr 1
/-- What a function hands back. -/
theorem resA_spec {rs : List ResultVar} : ∀ {l : List (Pt × Option (Option Nat))} {vs : List AV} {s' : St}, cRes P rs = some l → resA a s l = some (vs, s') → ∃ T, Seg s s' T [] ∧ s'.nx = s.nx ∧ ∀ (m : Tl) (H : Hp) (W : World) (N : Nat) (tmps : Array Value), Good w0 P P.globals.size m H W → Agree H s T → AT N m a tmps →
    ∃ us, (rs.mapM (resF tmps)).run P W = .ok us W ∧ LR m vs us := by
  induction rs with
  | nil =>
    intro l vs s' hc h
    cases hc
    cases h
    exact ⟨[], Seg.refl s, rfl, fun m H W N tmps hg ha hat => ⟨[], rfl, LR.nil m⟩⟩
  | cons r rs ih =>
    intro l vs s' hc h
    cases r with
    | tmp t =>
      obtain ⟨l', hl', rfl⟩ := map_inv (show (cRes P rs).map (fun l => (ptc t, none) :: l) = some l from hc)
      obtain ⟨v, hv, h_⟩ := ob_some h; clear h; have h := h_; clear h_
      obtain ⟨⟨vs', s1⟩, hrest, h_⟩ := ob_some h; clear h; have h := h_; clear h_
      cases h
      obtain ⟨T, hseg, hnx, hrun⟩ := ih hl' hrest
      refine ⟨T, hseg, hnx, fun m H W N tmps hg ha hat => ?_⟩
      obtain ⟨us, hus, hl⟩ := hrun m H W N tmps hg ha hat
      dsimp only at hv
      rw [ptc_eq] at hv
      obtain ⟨u, hu, hvu⟩ := hat.2 t v hv
      refine ⟨u :: us, ?_, LR.cons hvu hl⟩
      rw [List.mapM_cons]
      have : tmps.getD t undef = u := by simp [Array.getD_eq_getD_getElem?, hu]
      simp only [resF, Sem.run_bind, this, Sem.run_pure, Result.andThen_ok, hus]
    | cell at_ t =>
      have hc' : (match aggT P t, cRes P rs with | some n, some l => some ((ptc at_, some n) :: l) | _, _ => none) = some l := hc
      split at hc'
      · rename_i n l' hn hl'
        cases hc'
        obtain ⟨v, hv, h_⟩ := ob_some h; clear h; have h := h_; clear h_
        dsimp only at h
        split at h
        · rename_i b off
          obtain ⟨⟨vs', s1⟩, hrest, h_⟩ := ob_some h; clear h; have h := h_; clear h_
          obtain ⟨⟨cs, s2⟩, hcells, h_⟩ := ob_some h; clear h; have h := h_; clear h_
          obtain ⟨u, hu, h_⟩ := ob_some h; clear h; have h := h_; clear h_
          cases h
          obtain ⟨T, hseg, hnx, hrun⟩ := ih hl' hrest
          obtain ⟨ob0, hlk0, _⟩ := cellsRd_look hcells
          obtain ⟨hlt, _, hseg2, _, hnx2⟩ := look_spec hlk0
          refine ⟨[b] ++ T, by simpa using hseg.trans hseg2, (by have q1 : s2.nx = s1.nx := hnx2; have q2 : s1.nx = s.nx := hnx; show s2.nx = s.nx; omega), fun m H W N tmps hg ha hat => ?_⟩
          obtain ⟨us, hus, hl⟩ := hrun m H W N tmps hg ha.right hat
          have ha1 : Agree H s1 [b] := Agree.after hseg hnx ha
          obtain ⟨b', c, el, fr, hb, hh, hlen, hlc⟩ := rd_obj hcells ha1 (by simp) hg
          dsimp only at hv
          rw [ptc_eq] at hv
          obtain ⟨w, hw, hvw⟩ := hat.2 at_ _ hv
          cases hvw
          rename_i b2 hb2
          rw [hb] at hb2; cases hb2
          have hload : ∃ x, (loadVar t ⟨b', off, none⟩).run P W = .ok x W ∧ VR m u x := by
            obtain ⟨r1, r2⟩ := run_agg hn W
            cases n with
            | none =>
              obtain ⟨x, hx, hx'⟩ := hlc.get (i := off) (a := u) hu
              have hx2 : c[off]? = some x := by
                rw [List.getElem?_take] at hx
                split at hx
                · rw [← Array.getElem?_toList]; exact hx
                · cases hx
              exact ⟨x, by simp [loadVar, r1, cell_of hh, hx2], hx'⟩
            | some k =>
              obtain ⟨q, hq, hu⟩ := ob_some hu
              cases hu
              obtain ⟨hle, rfl⟩ := sub_some hq
              have hs := hlc.sub rfl hle
              dsimp only at hle
              exact ⟨.agg ⟨(c.toList.drop off).take k⟩, by simp [loadVar, r1, run_sz (r2 k rfl), run_loadCells_rk hh (show off + k ≤ c.size by omega)], .agg hs.1 hs.2⟩
          obtain ⟨x, hx, hvx⟩ := hload
          refine ⟨x :: us, ?_, LR.cons hvx hl⟩
          rw [List.mapM_cons]
          have : tmps.getD at_ undef = .pointer (some ⟨b', off, none⟩) := by simp [Array.getD_eq_getD_getElem?, hw]
          simp only [resF, Sem.run_bind, this, asAddr, Sem.run_pure, Result.andThen_ok, hx, hus]
        · cases h
      · cases hc'
theorem tup_spec {vs : List AV} {us : List Value} (h : LR m vs us) : VR m (tupA vs) (if h : us.toArray.size = 1 then us.toArray[0] else .tuple us.toArray) := by
  cases vs with
  | nil =>
    have := h.inv_nil
    subst this
    exact .tup rfl (fun i a v ha _ => by simp at ha)
  | cons v vs =>
    obtain ⟨u, us', rfl, h1, h2⟩ := h.inv_cons
    cases vs with
    | nil =>
      have := h2.inv_nil
      subst this
      simpa [tupA] using h1
    | cons v2 vs =>
      obtain ⟨u2, us2, rfl, h3, h4⟩ := h2.inv_cons
      have : ¬ (u :: u2 :: us2).toArray.size = 1 := by simp
      rw [dif_neg this]
      exact .tup h.1 h.2
theorem cFn_inv {f : Nat} {e : EFn} (h : cFn P f = some e) : ∃ fn c, P.funcs[f]? = some fn ∧ fn.body = some c ∧ (fn.name == "runtime.NumGoroutine") = false ∧ cRes P fn.results.toList = some e.res ∧ e.N = fn.ntmps ∧ e.code = cCode P fn.ntmps c := by
  unfold cFn at h
  split at h
  · rename_i fn hfn
    split at h
    · rename_i c r hb hr
      split at h
      · cases h
      · rename_i hnm
        cases h
        exact ⟨fn, c, hfn, hb, by simpa using hnm, hr, rfl, rfl⟩
    · cases h
  · cases h
/-- Functions whose contracts are known: what they come to, and what they do to the memory. -/
def OrcOk (w0 : World) (P : Program) (O : OrcT) : Prop := ClOk w0 P O
theorem Stp.below {s : St} {m : Tl} {H : Hp} {W W' : World} (hg : Good w0 P P.globals.size m H W) (hb : Below W.heap.size W W') : Stp w0 P P.globals.size s s [] m m H W W' := by
  have hk : ∀ (k : Nat) (ob : Obj), W.heap[k]? = some ob → W'.heap[k]? = some ob := fun k ob h => by
    rw [hb.block k (Array.getElem?_eq_some_iff.1 h).1]; exact h
  have hu : updH H s s [] = H := by
    funext n
    unfold updH
    rw [if_neg]
    rintro (h | h)
    · cases h
    · omega
  refine ⟨MExt.refl m, fun _ _ => rfl, fun n b h1 h2 _ => by omega, ?_, fun b ob h _ => hk b ob h, ⟨hb.os, hb.tape, hb.output⟩⟩
  rw [hu]
  exact ⟨fun n o hn hr => by
    obtain ⟨b, ob, h1, h2, h3⟩ := hg.obj n o hn hr
    exact ⟨b, ob, h1, hk b ob h2, h3⟩, hg.ro, hg.inj, hg.glob, fun k ob h => hk k ob (hg.old k ob h)⟩
theorem clE_ok {O : OrcT} {ih : Nat → Nat → Bool → ECode → Tri AV → List Nat → St → Rz} (hih : CodeOk w0 P ih) (hft : FTok P ft) (hO : OrcOk w0 P O) : ClOk w0 P (clE O ft ih) := by
  intro f args s v s' h
  unfold clE at h
  split at h
  case h_2 => exact hO f args s v s' h
  rename_i e0 he0
  obtain ⟨e, he, h⟩ := ob_some h
  rw [he0] at he
  cases he
  obtain ⟨fn, c, hfn, hb, hnm, hres, hN, hcode⟩ := cFn_inv (hft f e0 he0)
  refine ⟨⟨fn, hfn, by rw [hb]; rfl, hnm⟩, ?_⟩
  rw [hcode, hN] at h
  have key : ∀ {o : Out} {a1 : Tri AV} {ds : List Nat} {s1 : St}, (o = .norm ∨ o = .ret) → ih f fn.ntmps false (cCode P fn.ntmps c) (argT args 0 .leaf) [] s = .ok o a1 ds s1 → (ob (takeD ds s1) fun s => ob (resA a1 s e0.res) fun r => some (tupA r.1, r.2)) = some (v, s') →
      ∃ T Wr, Seg s s' T Wr ∧ ∀ (m : Tl) (H : Hp) (W : World) (vals : List Value) (R : Ending → World → Prop), Good w0 P P.globals.size m H W → Agree H s T → Fresh m s s' → LR m args vals →
        (∀ m' v' W', Stp w0 P P.globals.size s s' Wr m m' H W W' → VR m' v v' → R (.returned v') W') → CallsIn Fence.wide 0 P f ⟨vals⟩ W R := by
    intro o a1 ds s1 ho hev h
    obtain ⟨T1, W1, g1, hrun⟩ := hih _ _ _ _ _ _ _ _ _ _ _ hev
    obtain ⟨s2, htake, h_⟩ := ob_some h; clear h; have h := h_; clear h_
    obtain ⟨⟨vs, s3⟩, hresA, h_⟩ := ob_some h; clear h; have h := h_; clear h_
    cases h
    obtain ⟨T2, W2, g2, hn2, hleave⟩ := takeD_spec (w0 := w0) (P := P) htake
    obtain ⟨T3, g3, hn3, hresrun⟩ := resA_spec (w0 := w0) hres hresA
    refine ⟨T3 ++ (T2 ++ T1), [] ++ (W2 ++ W1), (g1.trans g2).trans g3, fun m H W vals R hg ha hf hl hR => ?_⟩
    have g12 := g1.trans g2
    have ha12 : Agree H s (T2 ++ T1) := ha.right
    refine callsIn_of_wp_marks hfn hb trivial ?_
    refine hrun none m H W _ _ (fun _ => rfl) hg ha12.right (Fresh.right g2 (Fresh.right g3 hf)) (AT.args hl) trivial (fun m1 act1 Wa hst1 hat1 hds1 => ?_)
    have hfin : LeavesInM Fence.wide 0 P fn act1.tmps R act1.defers .returning Wa := by
      refine hleave m1 _ Wa _ fn _ R hst1.good (ha12.left g1) hds1 (fun Wb hst2 => ?_)
      have hst12 := Stp.trans g1 g2 hst1 hst2
      have ha3 : Agree (updH H s s2 (W2 ++ W1)) s2 T3 := ha.left g12
      obtain ⟨us, hus, hlu⟩ := hresrun m1 _ Wb _ _ hst12.good ha3 hat1
      refine ⟨_, ?_, hR m1 _ Wb (by simpa using Stp.trans g12 g3 hst12 (Stp.looked g3 hn3 hst12.good)) (tup_spec hlu)⟩
      rw [results_eq, Array.mapM_eq_mapM_toList]
      simp only [Sem.run_bind, Sem.run_map, hus, Result.andThen_ok, Sem.run_pure]
    rcases ho with rfl | rfl <;> exact hfin
  split at h
  · rename_i hev; exact key (.inl rfl) hev h
  · rename_i hev; exact key (.inr rfl) hev h
  · cases h
end
end Go.Proofs.YtjckgagkkknmnaaDoor.Rk
/-
  Reckoning a program in the kernel: the reckoner touches its memory in no way but by its words. Nothing of the program.
-/
namespace Go.Proofs.YtjckgagkkknmnaaDoor.Rk
set_option linter.unusedVariables false
set_option linter.unusedSimpArgs false
open Go
set_option maxHeartbeats 2000000
set_option linter.unusedSimpArgs false

def Sx (s s' : St) : Prop := ∃ T Wr, Seg s s' T Wr
def SxCl (cl : Nat → List AV → St → Option (AV × St)) : Prop := ∀ f args s v s', cl f args s = some (v, s') → Sx s s'
section
variable {s s' s1 s2 : St} {cl yl : Nat → List AV → St → Option (AV × St)}
theorem Sx.refl (s : St) : Sx s s := ⟨[], [], Seg.refl s⟩
theorem Sx.trans (h1 : Sx s s1) (h2 : Sx s1 s2) : Sx s s2 := by
  obtain ⟨T1, W1, g1⟩ := h1
  obtain ⟨T2, W2, g2⟩ := h2
  exact ⟨_, _, g1.trans g2⟩
theorem Sx.look {n : Nat} {o : AObj} (h : Proofs.YtjckgagkkknmnaaDoor.Rk.look n s = some (o, s')) : Sx s s' := ⟨_, _, (look_spec h).2.2.1⟩
theorem Sx.put {n : Nat} {o : Option AObj} (h : putO n o s = some s') : Sx s s' := ⟨_, _, (putO_spec h).2.1⟩
theorem Sx.alloc {o : AObj} {n : Nat} (h : allocO o s = some (n, s')) : Sx s s' := ⟨_, _, (allocO_spec h).2.1⟩
theorem Sx.cells {n : Nat} {cs : List AV} {ex : Bool} (h : cellsAt n s = some (cs, ex, s')) : Sx s s' := .look (cellsAt_look h)
theorem Sx.rd {n : Nat} {cs : List AV} (h : cellsRd n s = some (cs, s')) : Sx s s' := by
  obtain ⟨o, hlk, _⟩ := cellsRd_look h
  exact .look hlk
theorem Sx.store {n off : Nat} {ds : List AV} (h : storeA n off ds s = some s') : Sx s s' := by
  obtain ⟨⟨cs, ex, s1⟩, hr0, h_⟩ := ob_some h; clear h; have h := h_; clear h_
  obtain ⟨_, h_⟩ := rec_some h; clear h; have h := h_; clear h_
  obtain ⟨_, h_⟩ := rec_some h; clear h; have h := h_; clear h_
  exact (Sx.cells hr0).trans (.put h)
theorem Sx.row {b off k : Nat} {new : List AV} (h : rowA b off k s = some (new, s')) : Sx s s' := by
  obtain ⟨⟨cs, s1⟩, hr0, h_⟩ := ob_some h; clear h; have h := h_; clear h_
  obtain ⟨_, _, h_⟩ := ob_some h; clear h; have h := h_; clear h_
  cases h
  exact .rd hr0
theorem Sx.first {size n : Nat} {x : AV} {new : List AV} (h : firstA size n x s = some (new, s')) : Sx s s' := by
  cases x <;> simp only [firstA] at h <;> (try (cases h; done)) <;> first | (cases h; exact .refl _) | exact .row h
theorem Sx.pureO {x : Option AV} {v : AV} (h : Proofs.YtjckgagkkknmnaaDoor.Rk.pureO s x = some (v, s')) : Sx s s' := by
  obtain ⟨_, rfl⟩ := pureO_some h
  exact .refl _
theorem Sx.app {size : Nat} {x y v : AV} (h : appA size x y s = some (v, s')) : Sx s s' := by
  obtain ⟨n, _, h_⟩ := ob_some h; clear h; have h := h_; clear h_
  obtain ⟨⟨new, s1⟩, hf, h_⟩ := ob_some h; clear h; have h := h_; clear h_
  have h1 := Sx.first hf
  obtain ⟨_, h_⟩ := rec_some h; clear h; have h := h_; clear h_
  split at h
  · obtain ⟨_, h_⟩ := rec_some h; clear h; have h := h_; clear h_
    rcases rec_two h with ⟨_, h⟩ | ⟨_, h⟩
    · obtain ⟨⟨k, s2⟩, hal, h_⟩ := ob_some h; clear h; have h := h_; clear h_
      cases h
      exact h1.trans (.alloc hal)
    · cases h; exact h1
  · obtain ⟨_, h_⟩ := rec_some h; clear h; have h := h_; clear h_
    rcases rec_two h with ⟨_, h⟩ | ⟨_, h⟩
    · obtain ⟨⟨old, s2⟩, hrow, h_⟩ := ob_some h; clear h; have h := h_; clear h_
      obtain ⟨⟨k, s3⟩, hal, h_⟩ := ob_some h; clear h; have h := h_; clear h_
      cases h
      exact (h1.trans (.row hrow)).trans (.alloc hal)
    · obtain ⟨s2, hst, h_⟩ := ob_some h; clear h; have h := h_; clear h_
      cases h
      exact h1.trans (.store hst)
  · obtain ⟨_, h_⟩ := rec_some h; clear h; have h := h_; clear h_
    rcases rec_two h with ⟨_, h⟩ | ⟨_, h⟩
    · obtain ⟨⟨cs, ex, s2⟩, hc, h_⟩ := ob_some h; clear h; have h := h_; clear h_
      obtain ⟨_, h_⟩ := rec_some h; clear h; have h := h_; clear h_
      obtain ⟨s3, hp, h_⟩ := ob_some h; clear h; have h := h_; clear h_
      obtain ⟨⟨k, s4⟩, hal, h_⟩ := ob_some h; clear h; have h := h_; clear h_
      cases h
      exact ((h1.trans (.cells hc)).trans (.put hp)).trans (.alloc hal)
    · cases h; exact h1
  · cases h
theorem Sx.copy {size : Nat} {x y v : AV} (h : copyA size x y s = some (v, s')) : Sx s s' := by
  obtain ⟨n, _, h_⟩ := ob_some h; clear h; have h := h_; clear h_
  obtain ⟨k, _, h_⟩ := ob_some h; clear h; have h := h_; clear h_
  rw [fN_eq] at h
  obtain ⟨⟨new, s1⟩, hf, h_⟩ := ob_some h; clear h; have h := h_; clear h_
  have h1 := Sx.first hf
  dsimp only at h
  split at h
  · cases h; exact h1
  · obtain ⟨_, h_⟩ := rec_some h; clear h; have h := h_; clear h_
    obtain ⟨s2, hst, h_⟩ := ob_some h; clear h; have h := h_; clear h_
    cases h
    exact h1.trans (.store hst)
  · obtain ⟨_, h_⟩ := rec_some h; clear h; have h := h_; clear h_
    obtain ⟨s2, hst, h_⟩ := ob_some h; clear h; have h := h_; clear h_
    cases h
    exact h1.trans (.store hst)
  · cases h
theorem Sx.op {a : Tri AV} {o : EOp} {v : AV} (hcl : SxCl cl) (hyl : SxCl yl) (h : evOp cl yl a s o = some (v, s')) : Sx s s' := by
  cases o with
  | bad => cases h
  | mov x => exact .pureO h
  | pick c x y =>
    obtain ⟨c, _, h_⟩ := ob_some h; clear h; have h := h_; clear h_
    split at h
    · rcases rec_two h with ⟨_, h⟩ | ⟨_, h⟩ <;> exact .pureO h
    · cases h
  | alloc z => obtain ⟨⟨n, s1⟩, hal, h⟩ := ob_some h; cases h; exact .alloc hal
  | box x => obtain ⟨_, _, h⟩ := ob_some h; obtain ⟨⟨n, s1⟩, hal, h⟩ := ob_some h; cases h; exact .alloc hal
  | build z ps => exact .pureO h
  | buildSl z n ps => obtain ⟨_, _, h⟩ := ob_some h; obtain ⟨⟨n, s1⟩, hal, h⟩ := ob_some h; cases h; exact .alloc hal
  | load1 x =>
    obtain ⟨v, _, h_⟩ := ob_some h; clear h; have h := h_; clear h_
    split at h
    · obtain ⟨⟨cs, s1⟩, hc, h_⟩ := ob_some h; clear h; have h := h_; clear h_
      exact (Sx.rd hc).trans (.pureO h)
    · cases h
  | loadN k x =>
    obtain ⟨v, _, h_⟩ := ob_some h; clear h; have h := h_; clear h_
    split at h
    · obtain ⟨⟨cs, s1⟩, hc, h_⟩ := ob_some h; clear h; have h := h_; clear h_
      obtain ⟨_, _, h_⟩ := ob_some h; clear h; have h := h_; clear h_
      cases h
      exact .rd hc
    · cases h
  | store k x y =>
    obtain ⟨x, _, h_⟩ := ob_some h; clear h; have h := h_; clear h_
    obtain ⟨y, _, h_⟩ := ob_some h; clear h; have h := h_; clear h_
    split at h
    · obtain ⟨_, h_⟩ := rec_some h; clear h; have h := h_; clear h_
      obtain ⟨s1, hst, h_⟩ := ob_some h; clear h; have h := h_; clear h_
      cases h
      exact .store hst
    · cases h
  | nilck x =>
    obtain ⟨x, _, h_⟩ := ob_some h; clear h; have h := h_; clear h_
    split at h <;> cases h <;> exact .refl _
  | bin op x y => obtain ⟨_, _, h⟩ := ob_some h; obtain ⟨_, _, h⟩ := ob_some h; exact .pureO h
  | eq neg t x y => obtain ⟨_, _, h⟩ := ob_some h; obtain ⟨_, _, h⟩ := ob_some h; obtain ⟨_, _, h⟩ := ob_some h; exact .pureO h
  | un op x => obtain ⟨_, _, h⟩ := ob_some h; exact .pureO h
  | conv k x =>
    obtain ⟨_, _, h_⟩ := ob_some h; clear h; have h := h_; clear h_
    split at h
    · exact .pureO h
    · cases h
  | b2s x =>
    obtain ⟨_, _, h_⟩ := ob_some h; clear h; have h := h_; clear h_
    split at h
    · cases h; exact .refl _
    · obtain ⟨⟨cs, s1⟩, hr, h_⟩ := ob_some h; clear h; have h := h_; clear h_
      obtain ⟨_, _, h_⟩ := ob_some h; clear h; have h := h_; clear h_
      cases h
      exact .row hr
    · obtain ⟨⟨cs, s1⟩, hr, h_⟩ := ob_some h; clear h; have h := h_; clear h_
      obtain ⟨_, _, h_⟩ := ob_some h; clear h; have h := h_; clear h_
      cases h
      exact .row hr
    · cases h
  | mkfn f x y => obtain ⟨_, _, h⟩ := ob_some h; obtain ⟨_, _, h⟩ := ob_some h; cases h; exact .refl _
  | mksl z b l c =>
    obtain ⟨_, _, h_⟩ := ob_some h; clear h; have h := h_; clear h_
    obtain ⟨_, _, h_⟩ := ob_some h; clear h; have h := h_; clear h_
    split at h
    · obtain ⟨_, h_⟩ := rec_some h; clear h; have h := h_; clear h_
      obtain ⟨_, h_⟩ := rec_some h; clear h; have h := h_; clear h_
      obtain ⟨⟨n, s1⟩, hal, h_⟩ := ob_some h; clear h; have h := h_; clear h_
      cases h
      exact .alloc hal
    · cases h
  | slc k x lo hi =>
    obtain ⟨_, _, h_⟩ := ob_some h; clear h; have h := h_; clear h_
    split at h
    · obtain ⟨_, _, h_⟩ := ob_some h; clear h; have h := h_; clear h_
      obtain ⟨_, _, h_⟩ := ob_some h; clear h; have h := h_; clear h_
      cases h; exact .refl _
    · obtain ⟨_, _, h_⟩ := ob_some h; clear h; have h := h_; clear h_
      obtain ⟨_, _, h_⟩ := ob_some h; clear h; have h := h_; clear h_
      simp only [fN_eq] at h
      cases h; exact .refl _
    · obtain ⟨_, _, h_⟩ := ob_some h; clear h; have h := h_; clear h_
      obtain ⟨_, _, h_⟩ := ob_some h; clear h; have h := h_; clear h_
      simp only [fN_eq] at h
      obtain ⟨_, h_⟩ := rec_some h; clear h; have h := h_; clear h_
      rcases rec_two h with ⟨_, h⟩ | ⟨_, h⟩
      · obtain ⟨_, h_⟩ := rec_some h; clear h; have h := h_; clear h_
        cases h; exact .refl _
      · cases h; exact .refl _
    · cases h
  | slc3 k x lo hi mx =>
    obtain ⟨_, _, h_⟩ := ob_some h; clear h; have h := h_; clear h_
    split at h
    · obtain ⟨_, _, h_⟩ := ob_some h; clear h; have h := h_; clear h_
      obtain ⟨_, _, h_⟩ := ob_some h; clear h; have h := h_; clear h_
      obtain ⟨_, _, h_⟩ := ob_some h; clear h; have h := h_; clear h_
      cases h; exact .refl _
    · obtain ⟨_, _, h_⟩ := ob_some h; clear h; have h := h_; clear h_
      obtain ⟨_, _, h_⟩ := ob_some h; clear h; have h := h_; clear h_
      obtain ⟨_, _, h_⟩ := ob_some h; clear h; have h := h_; clear h_
      simp only [fN_eq] at h
      cases h; exact .refl _
    · obtain ⟨_, _, h_⟩ := ob_some h; clear h; have h := h_; clear h_
      obtain ⟨_, _, h_⟩ := ob_some h; clear h; have h := h_; clear h_
      obtain ⟨_, _, h_⟩ := ob_some h; clear h; have h := h_; clear h_
      simp only [fN_eq] at h
      cases h; exact .refl _
    · cases h
  | slcS x lo hi =>
    obtain ⟨_, _, h_⟩ := ob_some h; clear h; have h := h_; clear h_
    split at h
    · obtain ⟨_, _, h_⟩ := ob_some h; clear h; have h := h_; clear h_
      obtain ⟨_, _, h_⟩ := ob_some h; clear h; have h := h_; clear h_
      cases h; exact .refl _
    · cases h
  | slcA n k x lo hi =>
    obtain ⟨_, _, h_⟩ := ob_some h; clear h; have h := h_; clear h_
    split at h
    · obtain ⟨_, _, h_⟩ := ob_some h; clear h; have h := h_; clear h_
      obtain ⟨_, _, h_⟩ := ob_some h; clear h; have h := h_; clear h_
      simp only [fN_eq] at h
      cases h; exact .refl _
    · cases h
  | faddr k x =>
    obtain ⟨_, _, h_⟩ := ob_some h; clear h; have h := h_; clear h_
    split at h
    · rw [fN_eq] at h; cases h; exact .refl _
    · cases h
  | field k n x =>
    obtain ⟨_, _, h_⟩ := ob_some h; clear h; have h := h_; clear h_
    split at h
    · exact .pureO h
    · cases h
  | iaddrA len k x i =>
    obtain ⟨_, _, h_⟩ := ob_some h; clear h; have h := h_; clear h_
    obtain ⟨_, _, h_⟩ := ob_some h; clear h; have h := h_; clear h_
    split at h
    · obtain ⟨_, h_⟩ := rec_some h; clear h; have h := h_; clear h_
      rw [fN_eq] at h; cases h; exact .refl _
    · cases h
  | iaddrS k x i =>
    obtain ⟨_, _, h_⟩ := ob_some h; clear h; have h := h_; clear h_
    obtain ⟨_, _, h_⟩ := ob_some h; clear h; have h := h_; clear h_
    split at h
    · obtain ⟨_, h_⟩ := rec_some h; clear h; have h := h_; clear h_
      rw [fN_eq] at h; cases h; exact .refl _
    · obtain ⟨_, h_⟩ := rec_some h; clear h; have h := h_; clear h_
      rw [fN_eq] at h; cases h; exact .refl _
    · cases h
  | idxA len k n x i =>
    obtain ⟨_, _, h_⟩ := ob_some h; clear h; have h := h_; clear h_
    obtain ⟨_, _, h_⟩ := ob_some h; clear h; have h := h_; clear h_
    split at h
    · obtain ⟨_, h_⟩ := rec_some h; clear h; have h := h_; clear h_
      exact .pureO h
    · cases h
  | idxS x i =>
    obtain ⟨_, _, h_⟩ := ob_some h; clear h; have h := h_; clear h_
    obtain ⟨_, _, h_⟩ := ob_some h; clear h; have h := h_; clear h_
    split at h
    · obtain ⟨_, _, h_⟩ := ob_some h; clear h; have h := h_; clear h_
      cases h; exact .refl _
    · cases h
  | ext i x =>
    obtain ⟨_, _, h_⟩ := ob_some h; clear h; have h := h_; clear h_
    split at h
    · exact .pureO h
    · cases h
  | call x args =>
    obtain ⟨_, _, h_⟩ := ob_some h; clear h; have h := h_; clear h_
    obtain ⟨_, _, h_⟩ := ob_some h; clear h; have h := h_; clear h_
    split at h
    · exact hcl _ _ _ _ _ h
    · exact hyl _ _ _ _ _ h
    · cases h
  | len b x =>
    obtain ⟨_, _, h_⟩ := ob_some h; clear h; have h := h_; clear h_
    obtain ⟨_, _, h_⟩ := ob_some h; clear h; have h := h_; clear h_
    rw [fN_eq] at h; cases h; exact .refl _
  | app k x y => obtain ⟨_, _, h⟩ := ob_some h; obtain ⟨_, _, h⟩ := ob_some h; exact .app h
  | copy k x y => obtain ⟨_, _, h⟩ := ob_some h; obtain ⟨_, _, h⟩ := ob_some h; exact .copy h
  | max x y =>
    obtain ⟨_, _, h_⟩ := ob_some h; clear h; have h := h_; clear h_
    obtain ⟨_, _, h_⟩ := ob_some h; clear h; have h := h_; clear h_
    split at h <;> cases h
    exact .refl _
  | min x y =>
    obtain ⟨_, _, h_⟩ := ob_some h; clear h; have h := h_; clear h_
    obtain ⟨_, _, h_⟩ := ob_some h; clear h; have h := h_; clear h_
    split at h <;> cases h
    exact .refl _
  | mkmap => obtain ⟨⟨n, s1⟩, hal, h⟩ := ob_some h; cases h; exact .alloc hal
  | lookup z ok x k =>
    obtain ⟨_, _, h_⟩ := ob_some h; clear h; have h := h_; clear h_
    obtain ⟨_, _, h_⟩ := ob_some h; clear h; have h := h_; clear h_
    split at h
    · obtain ⟨⟨r, s1⟩, hl, h_⟩ := ob_some h; clear h; have h := h_; clear h_
      split at h
      · rename_i heq
        cases heq
        obtain ⟨_, _, h_⟩ := ob_some h; clear h; have h := h_; clear h_
        cases ok <;> cases h <;> exact .look hl
      · cases h
    · cases h
  | mapup x k y =>
    obtain ⟨_, _, h_⟩ := ob_some h; clear h; have h := h_; clear h_
    obtain ⟨_, _, h_⟩ := ob_some h; clear h; have h := h_; clear h_
    obtain ⟨_, _, h_⟩ := ob_some h; clear h; have h := h_; clear h_
    split at h
    · obtain ⟨⟨r, s1⟩, hl, h_⟩ := ob_some h; clear h; have h := h_; clear h_
      split at h
      · rename_i heq
        cases heq
        obtain ⟨_, _, h_⟩ := ob_some h; clear h; have h := h_; clear h_
        obtain ⟨s2, hp, h_⟩ := ob_some h; clear h; have h := h_; clear h_
        cases h
        exact (Sx.look hl).trans (.put hp)
      · cases h
    · cases h
theorem Sx.putA {d : Option Pt} {v : AV} {a a' : Tri AV} (h : Proofs.YtjckgagkkknmnaaDoor.Rk.putA d v a s = some (a', s')) : s' = s := by
  unfold Proofs.YtjckgagkkknmnaaDoor.Rk.putA at h
  split at h
  · cases h; rfl
  · have := fT_some h
    cases this; rfl
theorem Sx.oper {a a' : Tri AV} {o : EOper} (hcl : SxCl cl) (hyl : SxCl yl) (h : evOper cl yl o a s = some (a', s')) : Sx s s' := by
  obtain ⟨b, _, h_⟩ := ob_some h; clear h; have h := h_; clear h_
  rcases rec_two h with ⟨_, h⟩ | ⟨_, h⟩
  · rw [Sx.putA h]; exact .refl _
  · obtain ⟨⟨v, s1⟩, ho, h_⟩ := ob_some h; clear h; have h := h_; clear h_
    rw [Sx.putA h]; exact .op hcl hyl ho
theorem Sx.ops (hcl : SxCl cl) (hyl : SxCl yl) : ∀ {l : List EOper} {a a' : Tri AV} {s s' : St}, evOps cl yl l a s = some (a', s') → Sx s s'
  | [], a, a', s, s', h => by cases h; exact .refl _
  | o :: l, a, a', s, s', h => by
    obtain ⟨⟨a1, s1⟩, h1, h_⟩ := ob_some h; clear h; have h := h_; clear h_
    exact (Sx.oper hcl hyl h1).trans (Sx.ops hcl hyl h)
theorem Sx.opsD (hcl : SxCl cl) (hyl : SxCl yl) : ∀ {l : List EOper} {i : Nat} {rs rs' : List Rec} {a a' : Tri AV} {s s' : St}, evOpsD cl yl l i rs a s = some (rs', a', s') → Sx s s'
  | [], i, rs, rs', a, a', s, s', h => by cases h; exact .refl _
  | o :: l, i, rs, rs', a, a', s, s', h => by
    obtain ⟨⟨a1, s1⟩, h1, h_⟩ := ob_some h; clear h; have h := h_; clear h_
    obtain ⟨T, Wr, g⟩ := Sx.oper hcl hyl h1
    refine Sx.trans (s1 := ⟨s1.h, s1.nx, Proofs.YtjckgagkkknmnaaDoor.Rk.app s1.lg s.lg, Proofs.YtjckgagkkknmnaaDoor.Rk.app s1.wl s.wl⟩) ⟨T, Wr, ?_⟩ (Sx.opsD hcl hyl h)
    have e1 : s1.lg = T := by have := g.lg; simpa using this
    have e2 : s1.wl = Wr := by have := g.wl; simpa using this
    exact ⟨(by show Proofs.YtjckgagkkknmnaaDoor.Rk.app s1.lg s.lg = _; rw [app_eq, e1]), (by show Proofs.YtjckgagkkknmnaaDoor.Rk.app s1.wl s.wl = _; rw [app_eq, e2]), g.sub, g.nx, g.same⟩
theorem Sx.regD {a a' : Tri AV} {l : List EOper} (hcl : SxCl cl) (hyl : SxCl yl) (h : evRegD cl yl l a s = some (a', s')) : Sx s s' := by
  obtain ⟨⟨rs, a1, s1⟩, hr, h_⟩ := ob_some h; clear h; have h := h_; clear h_
  obtain ⟨_, h_⟩ := rec_some h; clear h; have h := h_; clear h_
  cases h
  exact .opsD hcl hyl hr
/-- Code that is reckoned touches memory so. -/
def SxCode (ih : Nat → Nat → Bool → ECode → Tri AV → List Nat → St → Rz) : Prop := ∀ fid N rd c a ds s e a' ds' s', ih fid N rd c a ds s = .ok e a' ds' s' → Sx s s'
theorem Sx.take : ∀ {ds : List Nat} {s s' : St}, takeD ds s = some s' → Sx s s'
  | [], s, s', h => by cases h; exact .refl _
  | d :: ds, s, s', h => by
    obtain ⟨⟨o, s1⟩, hlk, h_⟩ := ob_some h; clear h; have h := h_; clear h_
    cases o <;> try (cases h; done)
    obtain ⟨s2, hput, h_⟩ := ob_some h; clear h; have h := h_; clear h_
    exact ((Sx.look hlk).trans (.put hput)).trans (Sx.take (ds := ds) h)
theorem Sx.res {a : Tri AV} : ∀ {l : List (Pt × Option (Option Nat))} {vs : List AV} {s' : St}, resA a s l = some (vs, s') → Sx s s'
  | [], vs, s', h => by cases h; exact .refl _
  | (p, none) :: l, vs, s', h => by
    obtain ⟨v, hv, h_⟩ := ob_some h; clear h; have h := h_; clear h_
    obtain ⟨⟨vs', s1⟩, hrest, h_⟩ := ob_some h; clear h; have h := h_; clear h_
    cases h
    exact Sx.res hrest
  | (p, some n) :: l, vs, s', h => by
    obtain ⟨v, hv, h_⟩ := ob_some h; clear h; have h := h_; clear h_
    dsimp only at h
    split at h
    · obtain ⟨⟨vs', s1⟩, hrest, h_⟩ := ob_some h; clear h; have h := h_; clear h_
      obtain ⟨⟨cs, s2⟩, hcells, h_⟩ := ob_some h; clear h; have h := h_; clear h_
      obtain ⟨u, hu, h_⟩ := ob_some h; clear h; have h := h_; clear h_
      cases h
      exact (Sx.res hrest).trans (.rd hcells)
    · cases h
theorem Sx.call {O : OrcT} (hO : SxCl O) {ft : Tri EFn} {ih : Nat → Nat → Bool → ECode → Tri AV → List Nat → St → Rz} (hih : SxCode ih) : SxCl (clE O ft ih) := by
  intro f args s v s' h
  unfold clE at h
  split at h
  case h_2 => exact hO f args s v s' h
  obtain ⟨e, he, h⟩ := ob_some h
  split at h
  · rename_i hev
    obtain ⟨s2, ht, h_⟩ := ob_some h; clear h; have h := h_; clear h_
    obtain ⟨⟨vs, s3⟩, hr, h_⟩ := ob_some h; clear h; have h := h_; clear h_
    cases h
    exact ((hih _ _ _ _ _ _ _ _ _ _ _ hev).trans (.take ht)).trans (.res hr)
  · rename_i hev
    obtain ⟨s2, ht, h_⟩ := ob_some h; clear h; have h := h_; clear h_
    obtain ⟨⟨vs, s3⟩, hr, h_⟩ := ob_some h; clear h; have h := h_; clear h_
    cases h
    exact ((hih _ _ _ _ _ _ _ _ _ _ _ hev).trans (.take ht)).trans (.res hr)
  · cases h
theorem loopAt_look {l : Nat} {st : LoopState} {pe : Option Out} {f N : Nat} {a0 : Tri AV} {ps : List Pt} {as_ bo : ECode} {d : Nat} (h : loopAt l s = some (st, pe, f, N, a0, ps, as_, bo, d, s')) : look l s = some (.loop st pe f N a0 ps as_ bo d, s') := by
  obtain ⟨⟨o, s1⟩, hlk, h_⟩ := ob_some h; clear h; have h := h_; clear h_
  cases o <;> (try (cases h; done))
  cases h
  exact hlk
theorem Sx.yield {ih : Nat → Nat → Bool → ECode → Tri AV → List Nat → St → Rz} (hih : SxCode ih) : SxCl (fun l args s => evYield ih l args s) := by
  intro l args s v s' h
  obtain ⟨⟨st, pe, f, N, a0, ps, as_, bo, d, s1⟩, hl1, h_⟩ := ob_some h; clear h; have h := h_; clear h_
  split at h
  case h_2 => cases h
  rename_i heq
  cases heq
  obtain ⟨a, hpar, h_⟩ := ob_some h; clear h; have h := h_; clear h_
  split at h
  case h_2 => cases h
  rename_i hev1
  obtain ⟨⟨st3, pe3, f3, N3, a3, ps3, as3, bo3, d3, s3⟩, hl2, h_⟩ := ob_some h; clear h; have h := h_; clear h_
  split at h
  case h_2 => cases h
  rename_i heq
  cases heq
  obtain ⟨s4, hput4, h_⟩ := ob_some h; clear h; have h := h_; clear h_
  split at h
  case h_2 => cases h
  rename_i hev2
  obtain ⟨⟨st6, pe6, f6, N6, a6, ps6, as6, bo6, d6, s6⟩, hl3, h_⟩ := ob_some h; clear h; have h := h_; clear h_
  have h1 := ((((Sx.look (loopAt_look hl1)).trans (hih _ _ _ _ _ _ _ _ _ _ _ hev1)).trans (.look (loopAt_look hl2))).trans (.put hput4)).trans ((hih _ _ _ _ _ _ _ _ _ _ _ hev2).trans (.look (loopAt_look hl3)))
  dsimp only at h
  split at h
  · obtain ⟨s7, hput, h_⟩ := ob_some h; clear h; have h := h_; clear h_
    cases h
    exact h1.trans (.put hput)
  · obtain ⟨s7, hput, h_⟩ := ob_some h; clear h; have h := h_; clear h_
    cases h
    exact h1.trans (.put hput)
  · obtain ⟨s7, hput, h_⟩ := ob_some h; clear h; have h := h_; clear h_
    cases h
    exact h1.trans (.put hput)
theorem Sx.rz {x : Option (Tri AV × St)} {ds ds' : List Nat} {e : Out} {a' : Tri AV} (h : rzO x ds = .ok e a' ds' s') (hx : ∀ a s', x = some (a, s') → Sx s s') : Sx s s' := by
  cases x with
  | none => cases h
  | some r =>
    obtain ⟨a, s1⟩ := r
    have h' : Rz.ok .norm a ds s1 = .ok e a' ds' s' := h
    cases h'
    exact hx _ _ rfl
theorem ev_sx (O : OrcT) (hO : SxCl O) (ft : Tri EFn) : ∀ n, SxCode (ev O ft n) := by
  intro n
  induction n with
  | zero => intro fid N rd c a ds s e a' ds' s' h; cases h
  | succ n ih =>
    intro fid N rd c a ds s e a' ds' s' h
    have hcl := Sx.call hO (ft := ft) ih
    have hyl := Sx.yield ih
    cases c with
    | bad => cases h
    | skip => cases h; exact .refl _
    | region ops draw =>
      cases draw with
      | false => exact Sx.rz h (fun a s' hx => .ops hcl hyl hx)
      | true => exact Sx.rz h (fun a s' hx => .regD hcl hyl hx)
    | seq x y =>
      have h' : (match ev O ft n fid N rd x a ds s with | .ok .norm a ds s => ev O ft n fid N rd y a ds s | r => r) = .ok e a' ds' s' := h
      split at h'
      · rename_i h1; exact (ih _ _ _ _ _ _ _ _ _ _ _ h1).trans (ih _ _ _ _ _ _ _ _ _ _ _ h')
      · exact ih _ _ _ _ _ _ _ _ _ _ _ h'
    | cond x t f =>
      have h' : (match rdo a x with | some (.bool b) => Bool.rec (ev O ft n fid N rd f a ds s) (ev O ft n fid N rd t a ds s) b | _ => .fail) = Rz.ok e a' ds' s' := h
      split at h'
      · rcases rec_two h' with ⟨_, h1⟩ | ⟨_, h1⟩ <;> exact ih _ _ _ _ _ _ _ _ _ _ _ h1
      · cases h'
    | block id c =>
      have h' : (match ev O ft n fid N rd c a ds s with | .ok (.exit j) a ds s => Bool.rec (.ok (.exit j) a ds s) (.ok .norm a ds s) (Nat.beq j id) | r => r) = Rz.ok e a' ds' s' := h
      split at h'
      · rename_i h1
        rcases rec_two h' with ⟨_, h2⟩ | ⟨_, h2⟩ <;> cases h2 <;> exact ih _ _ _ _ _ _ _ _ _ _ _ h1
      · exact ih _ _ _ _ _ _ _ _ _ _ _ h'
    | loop c =>
      have h' : (match ev O ft n fid N rd c a ds s with | .ok .norm a ds s => ev O ft n fid N rd (.loop c) a ds s | r => r) = .ok e a' ds' s' := h
      split at h'
      · rename_i h1; exact (ih _ _ _ _ _ _ _ _ _ _ _ h1).trans (ih _ _ _ _ _ _ _ _ _ _ _ h')
      · exact ih _ _ _ _ _ _ _ _ _ _ _ h'
    | exit id => cases h; exact .refl _
    | ret => cases h; exact .refl _
    | rangeF f ps as_ bo =>
      cases rd with
      | true => cases h
      | false =>
        have h' : (match rdo a f with
          | some (.fn g first caps) => match ob (allocO .dfr s) fun r => ob (allocO (.loop .ready none fid N a ps as_ bo r.1) r.2) fun q => ob (clE O ft (ev O ft n) g (first ++ [.yld q.1] ++ caps) q.2) fun p => ob (loopAt q.1 p.2) fun x => some (r.1, q.1, x) with
            | some (d, l, st, pe, f', N', a', ps', as', bo', d', s) => match st with
              | .busy => .fail
              | _ => match putO l (some (.loop .exhausted pe f' N' a' ps' as' bo' d')) s with
                | some s => .ok (Option.rec .norm (fun e => e) pe) a (d :: ds) s
                | none => .fail
            | none => .fail
          | _ => .fail) = Rz.ok e a' ds' s' := h
        split at h'
        · rename_i g first caps hf
          split at h'
          · rename_i d l st pe f' N' a0 ps' as' bo' d' s1 hx
            obtain ⟨⟨d1, t1⟩, ha1, hx_⟩ := ob_some hx; clear hx; have hx := hx_; clear hx_
            obtain ⟨⟨l1, t2⟩, ha2, hx_⟩ := ob_some hx; clear hx; have hx := hx_; clear hx_
            obtain ⟨⟨v1, t3⟩, hc, hx_⟩ := ob_some hx; clear hx; have hx := hx_; clear hx_
            obtain ⟨x1, hl, hx_⟩ := ob_some hx; clear hx; have hx := hx_; clear hx_
            cases hx
            have h1 := (((Sx.alloc ha1).trans (.alloc ha2)).trans (hcl _ _ _ _ _ hc)).trans (.look (loopAt_look hl))
            split at h'
            · cases h'
            · split at h'
              · rename_i hp
                cases h'
                exact h1.trans (.put hp)
              · cases h'
          · cases h'
        · cases h'
end
end Go.Proofs.YtjckgagkkknmnaaDoor.Rk
/-
  Reckoning a program in the kernel: a round of a range over a function. Nothing of the program.
-/
namespace Go.Proofs.YtjckgagkkknmnaaDoor.Rk
set_option linter.unusedVariables false
set_option linter.unusedSimpArgs false
open Go
set_option maxHeartbeats 2000000
set_option linter.unusedSimpArgs false

section
variable {w0 : World} {P : Program} {a a' : Tri AV} {s s' : St} {m : Tl} {H : Hp} {W : World}
theorem parT_spec {N : Nat} : ∀ (params : List Nat) (args : List AV) (vals : List Value) (a0 a : Tri AV) (tmps : Array Value), parT (params.map ptc) args a0 = some a → AT N m a0 tmps → (∀ p ∈ params, p < N) → LR m args vals →
    vals.length = params.length ∧ AT N m a ((params.zip vals).foldl (fun tmps (x : Nat × Value) => tmps.setIfInBounds x.1 x.2) tmps)
  | [], args, vals, a0, a, tmps, h, hat, hp, hl => by
    cases args with
    | nil => cases h; have := hl.inv_nil; subst this; exact ⟨rfl, hat⟩
    | cons v args => cases h
  | p :: ps, args, vals, a0, a, tmps, h, hat, hp, hl => by
    cases args with
    | nil => cases h
    | cons v args =>
      obtain ⟨u, us, rfl, h1, h2⟩ := hl.inv_cons
      have h' : parT (ps.map ptc) args (a0.set (some v) (ptc p)) = some a := h
      have hat1 : AT N m (a0.set (some v) (ptc p)) (tmps.setIfInBounds p u) := by
        have hpN := hp p (by simp)
        refine ⟨by simp; exact hat.1, fun t x hx => ?_⟩
        rw [ptc_eq] at hx
        by_cases ht : p = t
        · subst ht
          rw [Tri.set_same] at hx
          cases hx
          exact ⟨u, by simp [Array.getElem?_setIfInBounds, Nat.lt_of_lt_of_le hpN hat.1], h1⟩
        · rw [Tri.set_other _ _ _ _ (fun e => ht (pt_inj e))] at hx
          obtain ⟨w, hw, hvw⟩ := hat.2 t x hx
          exact ⟨w, by simp [Array.getElem?_setIfInBounds, ht, hw], hvw⟩
      obtain ⟨q1, q2⟩ := parT_spec ps args us _ a _ h' hat1 (fun q hq => hp q (List.mem_cons_of_mem _ hq)) h2
      exact ⟨by simp [q1], by simpa using q2⟩
theorem loop_obj {l : Nat} {st : LoopState} {pe : Option Out} {f N : Nat} {a0 : Tri AV} {ps : List Pt} {as_ bo : ECode} {d G : Nat} {T : List Nat} (h : loopAt l s = some (st, pe, f, N, a0, ps, as_, bo, d, s')) (ha : Agree H s T) (hT : l ∈ T) (hg : Good w0 P G m H W) :
    ∃ b r, m l = some b ∧ W.heap[b]? = some (.loop r) ∧ OR P m (.loop st pe f N a0 ps as_ bo d) (.loop r) ∧ live (H l) = true := by
  obtain ⟨b, ob, h1, h2, h3, h4, _⟩ := look_obj (loopAt_look h) rfl ha hT hg
  cases h3 with
  | @loop _ _ _ _ _ _ _ _ _ r q1 q2 q4 q5 q6 q7 q8 q9 q10 => exact ⟨b, r, h1, h2, .loop q1 q2 q4 q5 q6 q7 q8 q9 q10, by rw [h4]; rfl⟩
theorem OR.loop_inv {st : LoopState} {pe : Option Out} {f N : Nat} {a0 : Tri AV} {ps : List Pt} {as_ bo : ECode} {d : Nat} {l : Loop} (h : OR P m (.loop st pe f N a0 ps as_ bo d) (.loop l)) :
    l.state = st ∧ l.pending = pe.map outC ∧ AT N m a0 l.tmps ∧ l.params.toList.map ptc = ps ∧ cCode P N l.assign = as_ ∧ cCode P N l.body = bo ∧ m d = some l.defers ∧ (∀ p ∈ l.params.toList, p < N) ∧ pe ≠ some .norm := by
  cases h with
  | loop h1 h2 h4 h5 h6 h7 h8 h9 h10 => exact ⟨h1, h2, h4, h5, h6, h7, h8, h9, h10⟩
/-- The record is turned. -/
theorem Stp.record {l b : Nat} {o : AObj} {r : Loop} (h : putO l (some o) s = some s') {G : Nat} (hg : Good w0 P G m H W) (hH : live (H l) = true) (hb : m l = some b) (hw : ∃ x, W.heap[b]? = some x) (ho : OR P m o (.loop r)) : Stp w0 P G s s' [l] m m H W (W.putObj b (.loop r)) := by
  obtain ⟨x, hx⟩ := hw
  obtain ⟨hlt, _⟩ := Array.getElem?_eq_some_iff.1 hx
  exact Stp.put h hg hH hb (W' := W.putObj b (.loop r)) (fun k hk => World.putObj_heap_other hk) (fun y hy => by
    cases hy
    exact ⟨.loop r, by simp [World.putObj, hlt], ho, fun c el fr q => by cases q⟩) ⟨rfl, rfl, rfl⟩ (fun y hy => by cases hy; cases ho; rfl)
theorem CodeG.at_seg {N : Nat} {rd : Bool} {c : Code} {e : Out} {ds ds' : List Nat} {T Wr : List Nat} (h : CodeG w0 P N rd c e a a' ds ds' s s') (g : Seg s s' T Wr) :
    ∀ (ro : Option Nat) (m : Tl) (H : Hp) (W : World) (act : Act) (Q : Exit → Act → World → Prop), (rd = false → ro = none) → Good w0 P P.globals.size m H W → Agree H s T → Fresh m s s' → AT N m a act.tmps → DS m ds act.defers →
      (∀ m' act' W', Stp w0 P P.globals.size s s' Wr m m' H W W' → AT N m' a' act'.tmps → DS m' ds' act'.defers → Q (outE e) act' W') → c.wpIn (wf ro) 0 P Q act W := by
  obtain ⟨T', Wr', g', hrun⟩ := h
  have e1 : T' = T := List.append_cancel_right (g'.lg.symm.trans g.lg)
  have e2 : Wr' = Wr := List.append_cancel_right (g'.wl.symm.trans g.wl)
  subst e1; subst e2
  exact hrun
theorem yl_ok {ih : Nat → Nat → Bool → ECode → Tri AV → List Nat → St → Rz} (hih : CodeOk w0 P ih) (hsx : SxCode ih) : YlOk w0 P (fun l args s => evYield ih l args s) := by
  intro l args s v s' h
  obtain ⟨⟨st, pe, f, N, a0, ps, as_, bo, d, s1⟩, hl1, h_⟩ := ob_some h; clear h; have h := h_; clear h_
  split at h
  case h_2 => cases h
  rename_i pe f N a0 ps as_ bo d s1 heq
  cases heq
  obtain ⟨a, hpar, h_⟩ := ob_some h; clear h; have h := h_; clear h_
  split at h
  case h_2 => cases h
  rename_i a1 s2 hev1
  obtain ⟨⟨st3, pe3, f3, N3, a3, ps3, as3, bo3, d3, s3⟩, hl2, h_⟩ := ob_some h; clear h; have h := h_; clear h_
  split at h
  case h_2 => cases h
  rename_i pe3 f3 N3 a3 ps3 as3 bo3 d3 s3 heq
  cases heq
  obtain ⟨s4, hput4, h_⟩ := ob_some h; clear h; have h := h_; clear h_
  split at h
  case h_2 => cases h
  rename_i e a5 s5 hev2
  obtain ⟨⟨st6, pe6, f6, N6, a6, ps6, as6, bo6, d6, s6⟩, hl3, h_⟩ := ob_some h; clear h; have h := h_; clear h_
  dsimp only at h
  have hend : ∃ (st7 : LoopState) (pe7 : Option Out) (jump : Option Code), putO l (some (.loop st7 pe7 f6 N6 a6 ps6 as6 bo6 d6)) s6 = some s' ∧ v = .bool jump.isNone ∧ st7 = (if jump.isNone then .ready else .done) ∧ jump = pe7.map outC ∧ pe7 ≠ some .norm ∧
      (∀ (b : Nat) (R : Ending → World → Prop) (act : Act) (W : World), (∃ v w', (Instr.endRound b jump).run P W = .ok v w' ∧ R (.returned v) w') → roundPost P b R (outE e) act W) := by
    cases e with
    | norm =>
      obtain ⟨s7, hput, h_⟩ := ob_some h; clear h; have h := h_; clear h_
      cases h
      exact ⟨_, _, none, hput, rfl, rfl, rfl, by simp, fun b R act W hh => hh⟩
    | ret =>
      obtain ⟨s7, hput, h_⟩ := ob_some h; clear h; have h := h_; clear h_
      cases h
      exact ⟨_, _, some .ret, hput, rfl, rfl, rfl, by simp, fun b R act W hh => hh⟩
    | exit id =>
      obtain ⟨s7, hput, h_⟩ := ob_some h; clear h; have h := h_; clear h_
      cases h
      exact ⟨_, _, some (.exit id), hput, rfl, rfl, rfl, by simp, fun b R act W hh => hh⟩
  clear h
  obtain ⟨st7, pe7, jump, hput7, rfl, hst7, hjump, hpe7, hpost⟩ := hend
  obtain ⟨hlt1, _, g1, _, hn1⟩ := look_spec (loopAt_look hl1)
  obtain ⟨hlt3, _, g3, _, hn3⟩ := look_spec (loopAt_look hl2)
  obtain ⟨_, g4, hn4, _⟩ := putO_spec hput4
  obtain ⟨hlt6, _, g6, _, hn6⟩ := look_spec (loopAt_look hl3)
  obtain ⟨_, g7, hn7, _⟩ := putO_spec hput7
  obtain ⟨T2, W2, g2⟩ := hsx _ _ _ _ _ _ _ _ _ _ _ hev1
  obtain ⟨T5, W5, g5⟩ := hsx _ _ _ _ _ _ _ _ _ _ _ hev2
  have g12 := g1.trans g2
  have g34 := g3.trans g4
  have g1234 := g12.trans g34
  have g15 := g1234.trans g5
  have g67 := g6.trans g7
  refine ⟨_, _, g15.trans g67, fun m H W vals b R hg ha hf hl hb hR => ?_⟩
  have ha15 := ha.right
  have ha14 := ha15.right
  have ha12 := ha14.right
  have hf15 := Fresh.right g67 hf
  have hf14 := Fresh.right g5 hf15
  have hf12 := Fresh.right g34 hf14
  obtain ⟨b1, r1, hb1, hw1, hor1, _⟩ := loop_obj hl1 ha12.right (by simp) hg
  rw [hb] at hb1; cases hb1
  obtain ⟨q1, q2, q4, q5, q6, q7, q8, q9, q10⟩ := hor1.loop_inv
  -- yield asks for a round
  rw [← q5] at hpar
  obtain ⟨hlen, hat⟩ := parT_spec r1.params.toList args vals a0 a r1.tmps hpar q4 q9 hl
  have hy : (Instr.yield b ⟨vals⟩).run P W = .ok (.round b r1.fn ((r1.params.toList.zip vals).foldl (fun tmps (x : Nat × Value) => tmps.setIfInBounds x.1 x.2) r1.tmps) r1.assign r1.body) W := by
    rw [run_yield hw1 (by simpa using hlen)]
    congr 2
    rw [← Array.foldl_toList, Array.toList_zip]
  refine ⟨_, _, _, _, hy, ?_⟩
  refine roundIn_of_wpIn trivial ?_
  rw [← q6] at hev1
  rw [← q7] at hev2
  have hst1 : Stp w0 P P.globals.size s s1 [] m m H W W := Stp.looked g1 hn1 hg
  refine (hih _ _ _ _ _ _ _ _ _ _ _ hev1).at_seg g2 (some b) m _ W _ _ (fun h => by cases h) hst1.good (ha12.left g1) (Fresh.left g1 hst1 hf12) hat trivial (fun m2 act2 Wa hst2 hat2 hds2 => ?_)
  have hst12 := Stp.trans g1 g2 hst1 hst2
  have ha34 := ha14.left g12
  have hb2 : m2 l = some b := (hst12.ext _ _ hb).1
  obtain ⟨b3, r3, hb3, hw3, hor3, hne3⟩ := loop_obj hl2 (T := [l]) (ha34.right) (by simp) hst12.good
  rw [hb2] at hb3; cases hb3
  obtain ⟨u1, u2, u4, u5, u6, u7, u8, u9, u10⟩ := hor3.loop_inv
  refine ⟨Wa.putObj b (.loop { r3 with state := .busy }), run_beginRound hw3 u1, ?_⟩
  have hst34 : Stp w0 P P.globals.size s2 s4 ([l] ++ []) m2 m2 (updH H s s2 (W2 ++ [])) Wa (Wa.putObj b (.loop { r3 with state := .busy })) := by
    have := Stp.record (r := { r3 with state := .busy }) hput4 hst12.good hne3 hb2 ⟨_, hw3⟩ (.loop rfl u2 u4 u5 u6 u7 u8 u9 u10)
    simpa using Stp.after g3 hn3 g4 hst12.good this
  have hst14 := Stp.trans g12 g34 hst12 hst34
  refine (hih _ _ _ _ _ _ _ _ _ _ _ hev2).at_seg g5 (some b) m2 _ _ _ _ (fun h => by cases h) hst14.good (ha15.left g1234) (Fresh.left g1234 hst14 hf15) hat2 hds2 (fun m5 act5 Wb hst5 hat5 hds5 => ?_)
  have hst15 := Stp.trans g1234 g5 hst14 hst5
  have hb5 : m5 l = some b := (hst15.ext _ _ hb).1
  have ha67 := ha.left g15
  obtain ⟨b6, r6, hb6, hw6, hor6, hne6⟩ := loop_obj hl3 (T := [l]) ha67.right (by simp) hst15.good
  rw [hb5] at hb6; cases hb6
  obtain ⟨x1, x2, x4, x5, x6, x7, x8, x9, x10⟩ := hor6.loop_inv
  refine hpost b R act5 Wb ⟨_, _, run_endRound jump hw6, ?_⟩
  have hst67 : Stp w0 P P.globals.size s5 s' ([l] ++ []) m5 m5 (updH H s s5 (W5 ++ (([l] ++ []) ++ (W2 ++ [])))) Wb (Wb.putObj b (.loop { r6 with state := if jump.isNone then .ready else .done, pending := jump })) := by
    have := Stp.record (r := { r6 with state := if jump.isNone then .ready else .done, pending := jump }) hput7 hst15.good hne6 hb5 ⟨_, hw6⟩ (.loop hst7.symm hjump x4 x5 x6 x7 x8 x9 hpe7)
    simpa using Stp.after g6 hn6 g7 hst15.good this
  exact hR m5 _ _ (Stp.trans g15 g67 hst15 hst67) (.bool _)
end
end Go.Proofs.YtjckgagkkknmnaaDoor.Rk
/-
  Reckoning a program in the kernel: what is reckoned holds in the model. Nothing of the program.
-/
namespace Go.Proofs.YtjckgagkkknmnaaDoor.Rk
set_option linter.unusedVariables false
set_option linter.unusedSimpArgs false
open Go
set_option maxHeartbeats 2000000
set_option linter.unusedSimpArgs false

section
variable {w0 : World} {P : Program} {ft : Tri EFn} {a a' : Tri AV} {s s' : St} {m : Tl} {H : Hp} {W : World}
/-- A loop comes out by the rounds that are reckoned. -/
def LoopG (w0 : World) (P : Program) (N : Nat) (rd : Bool) (c : Code) (e : Out) (a a' : Tri AV) (ds ds' : List Nat) (s s' : St) : Prop :=
  ∃ k T Wr, Seg s s' T Wr ∧ ∀ (ro : Option Nat) (m : Tl) (H : Hp) (W : World) (act : Act) (Q : Exit → Act → World → Prop), (rd = false → ro = none) → Good w0 P P.globals.size m H W → Agree H s T → Fresh m s s' → AT N m a act.tmps → DS m ds act.defers →
    (∀ m' act' W', Stp w0 P P.globals.size s s' Wr m m' H W W' → AT N m' a' act'.tmps → DS m' ds' act'.defers → Q (outE e) act' W') → LoopsOut P ro c Q k act W
def LoopOk (w0 : World) (P : Program) (ih : Nat → Nat → Bool → ECode → Tri AV → List Nat → St → Rz) : Prop :=
  ∀ fid N rd c a ds s e a' ds' s', ih fid N rd (.loop (cCode P N c)) a ds s = .ok e a' ds' s' → e ≠ .norm ∧ LoopG w0 P N rd c e a a' ds ds' s s'
theorem then_out {next : Act → World → Prop} {Q : Exit → Act → World → Prop} {e : Out} (he : e ≠ .norm) {act : Act} {w : World} (h : Q (outE e) act w) : Exit.then next Q (outE e) act w := by
  cases e with
  | norm => exact absurd rfl he
  | exit id => exact h
  | ret => exact h
theorem code_ok {O : OrcT} (hft : FTok P ft) (hO : OrcOk w0 P O) : ∀ n, CodeOk w0 P (ev O ft n) ∧ LoopOk w0 P (ev O ft n) := by
  intro n
  induction n with
  | zero => exact ⟨(fun fid N rd c a ds s e a' ds' s' h => by cases h), (fun fid N rd c a ds s e a' ds' s' h => by cases h)⟩
  | succ n ih =>
    obtain ⟨ihc, ihl⟩ := ih
    have hsx := ev_sx O (fun f args s v s' h => let ⟨_, T, Wr, g, _⟩ := hO f args s v s' h; ⟨T, Wr, g⟩) ft n
    have hcl := clE_ok ihc hft hO
    have hyl := yl_ok ihc hsx
    have hloop : LoopOk w0 P (ev O ft (n + 1)) := by
      intro fid N rd c a ds s e a' ds' s' h
      have h' : (match ev O ft n fid N rd (cCode P N c) a ds s with | .ok .norm a ds s => ev O ft n fid N rd (.loop (cCode P N c)) a ds s | r => r) = .ok e a' ds' s' := h
      split at h'
      · rename_i a1 ds1 s1 h1
        obtain ⟨T1, W1, g1, hr1⟩ := ihc _ _ _ _ _ _ _ _ _ _ _ h1
        obtain ⟨hne, k, T2, W2, g2, hr2⟩ := ihl _ _ _ _ _ _ _ _ _ _ _ h'
        refine ⟨hne, k + 1, T2 ++ T1, W2 ++ W1, g1.trans g2, fun ro m H W act Q hro hg ha hf hat hds hQ => ?_⟩
        refine hr1 ro m H W act _ hro hg ha.right (hf.right g2) hat hds (fun m1 act1 Wa hst1 hat1 hds1 => ?_)
        exact hr2 ro m1 _ Wa act1 Q hro hst1.good (ha.left g1) (hf.left g1 hst1) hat1 hds1 (fun m2 act2 Wb hst2 hat2 hds2 => hQ m2 act2 Wb (Stp.trans g1 g2 hst1 hst2) hat2 hds2)
      · rename_i hno
        have hne : e ≠ .norm := fun he => by subst he; exact hno _ _ _ h'
        obtain ⟨T1, W1, g1, hr1⟩ := ihc _ _ _ _ _ _ _ _ _ _ _ h'
        exact ⟨hne, 1, T1, W1, g1, fun ro m H W act Q hro hg ha hf hat hds hQ => hr1 ro m H W act _ hro hg ha hf hat hds (fun m1 act1 Wa hst1 hat1 hds1 => then_out hne (hQ m1 act1 Wa hst1 hat1 hds1))⟩
    refine ⟨?_, hloop⟩
    intro fid N rd c
    induction c with
    | skip => intro a ds s e a' ds' s' h; cases h; exact .refl fun ro act W Q hQ => wpIn_skip hQ
    | label l => intro a ds s e a' ds' s' h; cases h; exact .refl fun ro act W Q hQ => wpIn_label hQ
    | exit id => intro a ds s e a' ds' s' h; cases h; exact .refl fun ro act W Q hQ => wpIn_exit hQ
    | ret => intro a ds s e a' ds' s' h; cases h; exact .refl fun ro act W Q hQ => wpIn_ret hQ
    | goto l => intro a ds s e a' ds' s' h; cases h
    | refuse w => intro a ds s e a' ds' s' h; cases h
    | scope c ihs =>
      intro a ds s e a' ds' s' h
      obtain ⟨T, Wr, g, hr⟩ := ihs _ _ _ _ _ _ _ h
      exact ⟨T, Wr, g, fun ro m H W act Q hro hg ha hf hat hds hQ => wpIn_scope_straight (hr ro m H W act _ hro hg ha hf hat hds (fun m1 act1 Wa hst1 hat1 hds1 => noGoto_out (hQ m1 act1 Wa hst1 hat1 hds1)))⟩
    | seq x y _ _ =>
      intro a ds s e a' ds' s' h
      have h' : (match ev O ft n fid N rd (cCode P N x) a ds s with | .ok .norm a ds s => ev O ft n fid N rd (cCode P N y) a ds s | r => r) = .ok e a' ds' s' := h
      split at h'
      · rename_i a1 ds1 s1 h1
        obtain ⟨T1, W1, g1, hr1⟩ := ihc _ _ _ _ _ _ _ _ _ _ _ h1
        obtain ⟨T2, W2, g2, hr2⟩ := ihc _ _ _ _ _ _ _ _ _ _ _ h'
        refine ⟨T2 ++ T1, W2 ++ W1, g1.trans g2, fun ro m H W act Q hro hg ha hf hat hds hQ => wpIn_seq ?_⟩
        refine hr1 ro m H W act _ hro hg ha.right (hf.right g2) hat hds (fun m1 act1 Wa hst1 hat1 hds1 => ?_)
        exact hr2 ro m1 _ Wa act1 Q hro hst1.good (ha.left g1) (hf.left g1 hst1) hat1 hds1 (fun m2 act2 Wb hst2 hat2 hds2 => hQ m2 act2 Wb (Stp.trans g1 g2 hst1 hst2) hat2 hds2)
      · rename_i hno
        have hne : e ≠ .norm := fun he => by subst he; exact hno _ _ _ h'
        obtain ⟨T1, W1, g1, hr1⟩ := ihc _ _ _ _ _ _ _ _ _ _ _ h'
        exact ⟨T1, W1, g1, fun ro m H W act Q hro hg ha hf hat hds hQ => wpIn_seq (hr1 ro m H W act _ hro hg ha hf hat hds (fun m1 act1 Wa hst1 hat1 hds1 => then_out hne (hQ m1 act1 Wa hst1 hat1 hds1)))⟩
    | cond x t f _ _ =>
      intro a ds s e a' ds' s' h
      cases hx : cO P x with
      | none =>
        have hbad : cCode P N (.cond x t f) = .bad := by simp only [cCode, hx]
        rw [hbad] at h; cases h
      | some x' =>
        have hco : cCode P N (.cond x t f) = .cond x' (cCode P N t) (cCode P N f) := by simp only [cCode, hx]
        rw [hco] at h
        have h' : (match rdo a x' with | some (.bool b) => Bool.rec (ev O ft n fid N rd (cCode P N f) a ds s) (ev O ft n fid N rd (cCode P N t) a ds s) b | _ => .fail) = Rz.ok e a' ds' s' := h
        split at h'
        · rename_i b hb
          have hev : ev O ft n fid N rd (cCode P N (if b then t else f)) a ds s = .ok e a' ds' s' := by cases b <;> exact h'
          obtain ⟨T1, W1, g1, hr1⟩ := ihc _ _ _ _ _ _ _ _ _ _ _ hev
          refine ⟨T1, W1, g1, fun ro m H W act Q hro hg ha hf hat hds hQ => ?_⟩
          have hv := rdo_spec (xs := [x]) (act := act) hx hb (fun t v ht hv => by
            obtain ⟨u, hu, hvu⟩ := hat.2 t v hv
            have : act.eval (.tmp t) = u := by simp [Act.eval, Array.getD_eq_getD_getElem?, hu]
            rw [this]; exact hvu) (by simp) hg.glob
          generalize hz : act.eval x = z at hv
          cases hv
          exact wpIn_cond hz (hr1 ro m H W act Q hro hg ha hf hat hds hQ)
        · cases h'
    | block id c _ =>
      intro a ds s e a' ds' s' h
      have h' : (match ev O ft n fid N rd (cCode P N c) a ds s with | .ok (.exit j) a ds s => Bool.rec (.ok (.exit j) a ds s) (.ok .norm a ds s) (Nat.beq j id) | r => r) = Rz.ok e a' ds' s' := h
      split at h'
      · rename_i j a1 ds1 s1 h1
        obtain ⟨T1, W1, g1, hr1⟩ := ihc _ _ _ _ _ _ _ _ _ _ _ h1
        rcases rec_two h' with ⟨hj, h2⟩ | ⟨hj, h2⟩ <;> cases h2
        · have hne : ¬ j = id := Nat.ne_of_beq_eq_false hj
          refine ⟨T1, W1, g1, fun ro m H W act Q hro hg ha hf hat hds hQ => wpIn_block (hr1 ro m H W act _ hro hg ha hf hat hds (fun m1 act1 Wa hst1 hat1 hds1 => ?_))⟩
          show (if j = id then _ else _)
          rw [if_neg hne]
          exact hQ m1 act1 Wa hst1 hat1 hds1
        · have he : j = id := Nat.eq_of_beq_eq_true hj
          refine ⟨T1, W1, g1, fun ro m H W act Q hro hg ha hf hat hds hQ => wpIn_block (hr1 ro m H W act _ hro hg ha hf hat hds (fun m1 act1 Wa hst1 hat1 hds1 => ?_))⟩
          show (if j = id then _ else _)
          rw [if_pos he]
          exact hQ m1 act1 Wa hst1 hat1 hds1
      · rename_i hno
        obtain ⟨T1, W1, g1, hr1⟩ := ihc _ _ _ _ _ _ _ _ _ _ _ h'
        refine ⟨T1, W1, g1, fun ro m H W act Q hro hg ha hf hat hds hQ => wpIn_block (hr1 ro m H W act _ hro hg ha hf hat hds (fun m1 act1 Wa hst1 hat1 hds1 => ?_))⟩
        have := hQ m1 act1 Wa hst1 hat1 hds1
        cases e with
        | norm => exact this
        | ret => exact this
        | exit j => exact (hno _ _ _ _ h').elim
    | loop c _ =>
      intro a ds s e a' ds' s' h
      obtain ⟨hne, k, T, Wr, g, hr⟩ := hloop _ _ _ _ _ _ _ _ _ _ _ h
      exact ⟨T, Wr, g, fun ro m H W act Q hro hg ha hf hat hds hQ => wpIn_loop_out (hr ro m H W act Q hro hg ha hf hat hds hQ)⟩
    | region id ops draw =>
      intro a ds s e a' ds' s' h
      have hco : cCode P N (.region id ops draw) = (if draw && !(P.follows .mixedOrders && backs ops && apartOk ops (Region.before ops) && ancOk ops (Region.before ops)) then .bad else match cOpers P N ops (Region.before ops) ops.toList 0 with
        | some l => .region l draw
        | none => .bad) := rfl
      rw [hco] at h
      split at h
      · cases h
      · rename_i hcond
        split at h
        · rename_i es hes
          cases draw with
          | false =>
            have h' : rzO (evOps (clE O ft (ev O ft n)) (fun l args s => evYield (ev O ft n) l args s) es a s) ds = .ok e a' ds' s' := h
            cases hx : evOps (clE O ft (ev O ft n)) (fun l args s => evYield (ev O ft n) l args s) es a s with
            | none => rw [hx] at h'; cases h'
            | some r =>
              obtain ⟨a1, s1⟩ := r
              rw [hx] at h'
              have h2 : Rz.ok .norm a1 ds s1 = .ok e a' ds' s' := h'
              cases h2
              have hseq := fun (ro : Option Nat) => ops_seq (w0 := w0) (P := P) (N := N) (anc := Region.before ops) (ro := ro) hcl hyl ops.toList 0 es a a' s s' (fun k => by simp) hes hx
              obtain ⟨T, Wr, g, _⟩ := hseq none
              refine ⟨T, Wr, g, fun ro m H W act Q hro hg ha hf hat hds hQ => wpIn_region ?_⟩
              obtain ⟨T', Wr', g', hr⟩ := hseq ro
              have e1 : T' = T := List.append_cancel_right (g'.lg.symm.trans g.lg)
              have e2 : Wr' = Wr := List.append_cancel_right (g'.wl.symm.trans g.wl)
              subst e1; subst e2
              have := hr m H W act Q hg ha hf hat (fun m1 act1 Wa hst1 hat1 hd1 => hQ m1 act1 Wa hst1 hat1 (by rw [hd1]; exact hds.mono hst1.ext))
              rw [List.range_eq_range']
              simpa using this
          | true =>
            have hX : (P.follows .mixedOrders && backs ops && apartOk ops (Region.before ops) && ancOk ops (Region.before ops)) = true := by
              cases hX : (P.follows .mixedOrders && backs ops && apartOk ops (Region.before ops) && ancOk ops (Region.before ops)) with
              | true => rfl
              | false => exact absurd (by rw [hX]; rfl) hcond
            simp only [Bool.and_eq_true] at hX
            have h' : rzO (evRegD (clE O ft (ev O ft n)) (fun l args s => evYield (ev O ft n) l args s) es a s) ds = .ok e a' ds' s' := h
            cases hx : evRegD (clE O ft (ev O ft n)) (fun l args s => evYield (ev O ft n) l args s) es a s with
            | none => rw [hx] at h'; cases h'
            | some r =>
              obtain ⟨a1, s1⟩ := r
              rw [hx] at h'
              have h2 : Rz.ok .norm a1 ds s1 = .ok e a' ds' s' := h'
              cases h2
              have hreg := fun (ro : Option Nat) => regD_ok (w0 := w0) (P := P) (N := N) (anc := Region.before ops) (ro := ro) (id := id) hcl hyl hX.1.1.1 hX.1.1.2 hX.1.2 hX.2 hes hx
              obtain ⟨T, Wr, g, _⟩ := hreg none
              refine ⟨T, Wr, g, fun ro m H W act Q hro hg ha hf hat hds hQ => ?_⟩
              obtain ⟨T', Wr', g', hr⟩ := hreg ro
              have e1 : T' = T := List.append_cancel_right (g'.lg.symm.trans g.lg)
              have e2 : Wr' = Wr := List.append_cancel_right (g'.wl.symm.trans g.wl)
              subst e1; subst e2
              exact hr m H W act Q hg ha hf hat (fun m1 act1 Wa hst1 hat1 hd1 => hQ m1 act1 Wa hst1 hat1 (by rw [hd1]; exact hds.mono hst1.ext))
        · cases h
    | rangeFunc f ps as_ bo _ _ =>
      intro a ds s e a' ds' s' h
      cases hfo : cO P f with
      | none =>
        have hbad : cCode P N (.rangeFunc f ps as_ bo) = .bad := by simp only [cCode, hfo]
        rw [hbad] at h; cases h
      | some f' =>
        by_cases hps : ps.toList.all (fun p => decide (p < N)) = true
        case neg =>
          have hbad : cCode P N (.rangeFunc f ps as_ bo) = .bad := by simp only [cCode, hfo]; rw [if_neg hps]
          rw [hbad] at h; cases h
        have hco : cCode P N (.rangeFunc f ps as_ bo) = .rangeF f' (ps.toList.map ptc) (cCode P N as_) (cCode P N bo) := by simp only [cCode, hfo]; rw [if_pos hps]
        rw [hco] at h
        cases rd with
        | true => cases h
        | false =>
          have h' : (match rdo a f' with
            | some (.fn g first caps) => match ob (allocO .dfr s) fun r => ob (allocO (.loop .ready none fid N a (ps.toList.map ptc) (cCode P N as_) (cCode P N bo) r.1) r.2) fun q => ob (clE O ft (ev O ft n) g (first ++ [.yld q.1] ++ caps) q.2) fun p => ob (loopAt q.1 p.2) fun x => some (r.1, q.1, x) with
              | some (d, l, st, pe, f', N', a', ps', as', bo', d', s) => match st with
                | .busy => .fail
                | _ => match putO l (some (.loop .exhausted pe f' N' a' ps' as' bo' d')) s with
                  | some s => .ok (Option.rec .norm (fun e => e) pe) a (d :: ds) s
                  | none => .fail
              | none => .fail
            | _ => .fail) = Rz.ok e a' ds' s' := h
          clear h
          split at h'
          case h_2 => cases h'
          rename_i g first caps hf
          split at h'
          case h_2 => cases h'
          rename_i d l st pe f2 N2 a2 ps2 as2 bo2 d2 s5 hx
          obtain ⟨⟨d1, t1⟩, ha1, hx_⟩ := ob_some hx; clear hx; have hx := hx_; clear hx_
          obtain ⟨⟨l1, t2⟩, ha2, hx_⟩ := ob_some hx; clear hx; have hx := hx_; clear hx_
          obtain ⟨⟨v1, t3⟩, hc, hx_⟩ := ob_some hx; clear hx; have hx := hx_; clear hx_
          obtain ⟨x1, hl, hx_⟩ := ob_some hx; clear hx; have hx := hx_; clear hx_
          cases hx
          obtain ⟨⟨fn, hfn, hbody, hname⟩, T3, W3, g3, hrun3⟩ := hcl _ _ _ _ _ hc
          have hend : st ≠ .busy ∧ ∃ s6, putO l1 (some (.loop .exhausted pe f2 N2 a2 ps2 as2 bo2 d2)) s5 = some s6 ∧ Rz.ok (Option.rec .norm (fun e => e) pe) a (d1 :: ds) s6 = Rz.ok e a' ds' s' := by
            split at h'
            · cases h'
            · rename_i hnb
              split at h'
              · rename_i s6 hp
                exact ⟨hnb, s6, hp, h'⟩
              · cases h'
          obtain ⟨hnb, s6, hp, hres⟩ := hend
          clear h'
          cases hres
          obtain ⟨hnd, ga1, hna1, _⟩ := allocO_spec ha1
          obtain ⟨hnl, ga2, hna2, _⟩ := allocO_spec ha2
          obtain ⟨_, _, g4, _, hn4⟩ := look_spec (loopAt_look hl)
          obtain ⟨_, g5, hn5, _⟩ := putO_spec hp
          have g12 := ga1.trans ga2
          have g123 := g12.trans g3
          have g45 := g4.trans g5
          refine ⟨_, _, g123.trans g45, fun ro m H W act Q hro hg ha hf' hat hds hQ => ?_⟩
          have hro0 := hro rfl
          subst hro0
          have ha123 := ha.right
          have ha12 := ha123.right
          have hf123 := Fresh.right g45 hf'
          have hf12 := Fresh.right g3 hf123
          have hfa1 := Fresh.right ga2 hf12
          refine wpIn_rangeFunc (fun fnid _ => ?_)
          -- what is ranged over
          have hv := rdo_spec (xs := [f]) (act := act) hfo hf (fun t v ht hv => by
            obtain ⟨u, hu, hvu⟩ := hat.2 t v hv
            have : act.eval (.tmp t) = u := by simp [Act.eval, Array.getD_eq_getD_getElem?, hu]
            rw [this]; exact hvu) (by simp) hg.glob
          generalize hz : act.eval f = z at hv
          cases hv
          rename_i vs us hlv hvv hlu hvu
          have hlfirst : LR m first vs := ⟨hlv, hvv⟩
          have hlcaps : LR m caps us := ⟨hlu, hvu⟩
          -- the two blocks
          let W1 : World := W.alloc (.deferred (some []))
          let W2 : World := W1.alloc (.loop { state := .ready, pending := none, fn := fnid, tmps := act.tmps, params := ps, assign := as_, body := bo, defers := W.heap.size })
          have hm0 : m d1 = none := hfa1 d1 (by omega) (by show d1 < t1.nx; omega)
          have hstA : Stp w0 P P.globals.size s t1 [] m (mSet m d1 W.heap.size 0) H W W1 := Stp.alloc ha1 hg hfa1 (ob := .deferred (some [])) 0 (by show (W.heap.push _)[W.heap.size]? = _; simp) (fun k hk => by show (W.heap.push _)[k]? = _; simp [Array.getElem?_push, Nat.ne_of_lt hk]) .dfr (fun c el fr q => by cases q)
          have hfa2 : Fresh (mSet m d1 W.heap.size 0) t1 t2 := Fresh.left ga1 hstA hf12
          have hnl' : l1 = t1.nx := hnl
          have hna2' : t2.nx = t1.nx + 1 := hna2
          have hm1 : (mSet m d1 W.heap.size 0) l1 = none := hfa2 l1 (by omega) (by show l1 < t2.nx; omega)
          have hW1s : W1.heap.size = W.heap.size + 1 := by simp [W1]
          have hextB := mSet_ext (b := W1.heap.size) (C := 0) hm1
          have hstB : Stp w0 P P.globals.size t1 t2 [] (mSet m d1 W.heap.size 0) (mSet (mSet m d1 W.heap.size 0) l1 W1.heap.size 0) (updH H s t1 []) W1 W2 := by
            refine Stp.alloc ha2 hstA.good hfa2 (ob := .loop { state := .ready, pending := none, fn := fnid, tmps := act.tmps, params := ps, assign := as_, body := bo, defers := W.heap.size }) 0 (by show (W1.heap.push _)[W1.heap.size]? = _; simp) (fun k hk => by show (W1.heap.push _)[k]? = _; simp [Array.getElem?_push, Nat.ne_of_lt hk]) ?_ (fun c el fr q => by cases q)
            exact .loop rfl rfl ((hat.mono hstA.ext).mono hextB) rfl rfl rfl (hextB _ _ (mSet_same _ _ _ _)).1 (fun p hp => by simpa using List.all_eq_true.1 hps p hp) (by simp)
          have hstAB := Stp.trans ga1 ga2 hstA hstB
          let m2 : Tl := mSet (mSet m d1 W.heap.size 0) l1 W1.heap.size 0
          have hml : m2 l1 = some (W.heap.size + 1) := by show mSet _ l1 _ 0 l1 = _; rw [mSet_same, hW1s]
          have hmd : m2 d1 = some W.heap.size := (hextB _ _ (mSet_same _ _ _ _)).1
          refine ⟨W.heap.size + 1, [{ target := .collected W.heap.size, args := #[] }], W2, { target := .fn (.func g) ⟨us⟩, args := Array.mk vs ++ #[.func (.yield (W.heap.size + 1)) #[] #[]] }, W2, g, ⟨vs ++ [.func (.yield (W.heap.size + 1)) #[] #[]] ++ us⟩, W2, ?_, ?_, fun _ _ => trivial, ?_, (fun hd => by cases hd), ?_⟩
          · exact run_enterLoop_outer _ _ _ _ _
          · simp only [resolve, rangeCall, hz, Deferred.ofValue, Sem.run_pure]
            simp [Act.eval]
          · have e : (Array.mk vs ++ #[Act.eval act (.const (.func (.yield (W.heap.size + 1)) #[] #[]))] ++ Array.mk us) = ⟨vs ++ [.func (.yield (W.heap.size + 1)) #[] #[]] ++ us⟩ := by apply Array.ext'; simp [Act.eval]
            simp only [invoke, callFunc, Sem.run_bind, run_program, Result.andThen_ok, hfn, hname, Bool.false_eq_true, if_false, hbody, Sem.run_pure]
            rw [← e]
            simp [Act.eval]
          · refine hrun3 m2 _ W2 _ _ hstAB.good (ha123.left g12) (Fresh.left g12 hstAB hf123) (LR.append (LR.append (hlfirst.mono hstAB.ext) (LR.cons (.yld hml) (LR.nil m2))) (hlcaps.mono hstAB.ext)) (fun m3 v3 Wc hst3 hv3 => ?_)
            have hst123 := Stp.trans g12 g3 hstAB hst3
            have ha45 := ha.left g123
            have hml3 : m3 l1 = some (W.heap.size + 1) := (hst3.ext _ _ hml).1
            obtain ⟨b4, r4, hb4, hw4, hor4, hne4⟩ := loop_obj hl (T := [l1]) ha45.right (by simp) hst123.good
            rw [hml3] at hb4; cases hb4
            obtain ⟨x1, x2, x4, x5, x6, x7, x8, x9, x10⟩ := hor4.loop_inv
            refine ⟨r4.pending, Wc.putObj (W.heap.size + 1) (.loop { r4 with state := .exhausted }), run_endLoop hw4 (by rw [x1]; exact hnb), ?_⟩
            have hst45 : Stp w0 P P.globals.size t3 s' ([l1] ++ []) m3 m3 (updH H s t3 (W3 ++ ([] ++ []))) Wc (Wc.putObj (W.heap.size + 1) (.loop { r4 with state := .exhausted })) := by
              have := Stp.record (r := { r4 with state := .exhausted }) hp hst123.good hne4 hml3 ⟨_, hw4⟩ (.loop rfl x2 x4 x5 x6 x7 x8 x9 x10)
              simpa using Stp.after g4 hn4 g5 hst123.good this
            have hfin := hQ m3 { act with defers := [{ target := .collected W.heap.size, args := #[] }] ++ act.defers } _ (Stp.trans g123 g45 hst123 hst45) (hat.mono hst123.ext) ⟨⟨_, (hst3.ext _ _ hmd).1, rfl⟩, hds.mono hst123.ext⟩
            rw [x2] at hfin ⊢
            cases pe with
            | none => exact hfin
            | some e =>
              cases e with
              | norm => exact absurd rfl x10
              | ret => exact wpIn_ret hfin
              | exit id => exact wpIn_exit hfin
end
end Go.Proofs.YtjckgagkkknmnaaDoor.Rk
/-
  Reckoning a program in the kernel: a call that comes to true, and turns nothing that was there. Nothing of the program.
-/
namespace Go.Proofs.YtjckgagkkknmnaaDoor.Rk
set_option linter.unusedVariables false
set_option linter.unusedSimpArgs false
open Go Go.RowKit
set_option maxHeartbeats 2000000
set_option linter.unusedSimpArgs false

section
variable {w0 : World} {P : Program} {ft : Tri EFn} {s s' : St} {m : Tl} {W : World}
theorem reckon {O : OrcT} (hft : FTok P ft) (hO : OrcOk w0 P O) {n f : Nat} {args : List AV} {v : AV} {vals : List Value} {R : Ending → World → Prop} (h : clE O ft (ev O ft n) f args s = some (v, s')) (hg : Good w0 P P.globals.size m s.H W) (hfr : ∀ k, s.nx ≤ k → m k = none) (hl : LR m args vals)
    (hR : ∀ Wr m' v' W', s'.wl = Wr ++ s.wl → Stp w0 P P.globals.size s s' Wr m m' s.H W W' → VR m' v v' → R (.returned v') W') : Calls P f ⟨vals⟩ W R := by
  obtain ⟨_, T, Wr, g, hrun⟩ := clE_ok (code_ok hft hO n).1 hft hO _ _ _ _ _ h
  exact callsIn_wide.1 (hrun m s.H W vals R hg (fun _ _ _ => rfl) (fun k hk _ => hfr k hk) hl (fun m' v' W' hst hv => hR Wr m' v' W' g.wl hst hv))
noncomputable def newOnly (k : Nat) : List Nat → Bool := List.rec true (fun x _ ih => Bool.rec false ih (Nat.ble k x))
theorem newOnly_spec {k : Nat} : ∀ {l : List Nat}, newOnly k l = true → ∀ x ∈ l, k ≤ x
  | [], _, x, hx => by cases hx
  | y :: l, h, x, hx => by
    have h' : (Bool.rec false (newOnly k l) (Nat.ble k y) : Bool) = true := h
    cases hb : Nat.ble k y with
    | false => rw [hb] at h'; cases h'
    | true =>
      rw [hb] at h'
      rcases List.mem_cons.1 hx with rfl | hx
      · exact Nat.le_of_ble_eq_true hb
      · exact newOnly_spec h' x hx
/-- A call that comes to true, no block that was there being written. -/
noncomputable def comesTrue (O : OrcT) (ft : Tri EFn) (n f : Nat) (args : List AV) (s : St) : Bool := match clE O ft (ev O ft n) f args s with
  | some (.bool b, s') => Bool.rec false (newOnly s.nx s'.wl) b
  | _ => false
theorem reckon_true {O : OrcT} (hft : FTok P ft) (hO : OrcOk w0 P O) {n f : Nat} {args : List AV} {vals : List Value} (h : comesTrue O ft n f args s = true) (hw : s.wl = []) (hg : Good w0 P P.globals.size m s.H W) (hfr : ∀ k, s.nx ≤ k → m k = none) (hl : LR m args vals) :
    Calls P f ⟨vals⟩ W fun e W' => e = .returned (.bool true) ∧ Below W.heap.size W W' := by
  unfold comesTrue at h
  split at h
  · rename_i b s1 hc
    cases b with
    | false => cases h
    | true =>
      refine reckon hft hO hc hg hfr hl (fun Wr m' v' W' hwl hst hv => ?_)
      cases hv
      refine ⟨rfl, ?_⟩
      rw [hw, List.append_nil] at hwl
      have hnew := newOnly_spec (l := s1.wl) h
      rw [hwl] at hnew
      have hfrm : ∀ (k : Nat) (ob : Obj), W.heap[k]? = some ob → W'.heap[k]? = some ob := fun k ob hk => hst.frame k ob hk (fun x hx hlt => by have := hnew x hx; omega)
      refine ⟨hst.rest.1, hst.rest.2.1, hst.rest.2.2, ?_, fun k hk => ?_⟩
      · rcases Nat.eq_zero_or_pos W.heap.size with h0 | h0
        · omega
        · have := hfrm (W.heap.size - 1) _ (Array.getElem?_eq_getElem (by omega))
          have := (Array.getElem?_eq_some_iff.1 this).1
          omega
      · rw [Array.getElem?_eq_getElem hk]
        exact hfrm k _ (Array.getElem?_eq_getElem hk)
  · cases h
end
end Go.Proofs.YtjckgagkkknmnaaDoor.Rk
/-
  Reckoning: the world as_ it stands ahead of a call that reads no table; no function is left to a contract.
-/
namespace Go.Proofs.YtjckgagkkknmnaaDoor.Rk
set_option linter.unusedVariables false
set_option linter.unusedSimpArgs false
open Go Go.RowKit
def m00 : Tl := ⟨fun n => if n < 64 then some n else none, fun _ => 0⟩
end Go.Proofs.YtjckgagkkknmnaaDoor.Rk
/-
  Reckoning: the world as_ it stands ahead of a call that reads tables: blocks of globals, with what stands in them.
-/
namespace Go.Proofs.YtjckgagkkknmnaaDoor.Rk
set_option linter.unusedVariables false
set_option linter.unusedSimpArgs false
open Go Go.RowKit

noncomputable def tabH : List (Nat × List AV) → Tri AObj
  | [] => .leaf
  | (n, cs) :: l => (tabH l).set (some (.ro cs)) (pt n)
noncomputable def stT (l : List (Nat × List AV)) : St := ⟨tabH l, 64, [], []⟩
theorem tabH_get {n : Nat} {o : AObj} : ∀ (l : List (Nat × List AV)), (tabH l).get (pt n) = some o → ∃ cs, o = .ro cs ∧ (n, cs) ∈ l
  | [], h => by rw [show tabH [] = .leaf from rfl, Tri.get_leaf] at h; cases h
  | (k, cs) :: l, h => by
    by_cases hk : pt k = pt n
    · have := pt_inj hk
      subst this
      rw [show tabH ((k, cs) :: l) = (tabH l).set (some (.ro cs)) (pt k) from rfl, Tri.set_same] at h
      cases h
      exact ⟨cs, rfl, List.mem_cons_self ..⟩
    · rw [show tabH ((k, cs) :: l) = (tabH l).set (some (.ro cs)) (pt k) from rfl, Tri.set_other _ _ _ _ hk] at h
      obtain ⟨c, h1, h2⟩ := tabH_get l h
      exact ⟨c, h1, List.mem_cons_of_mem _ h2⟩
/-- A table of the world: its block's first cells. -/
def TabIn (W : World) (n : Nat) (cs : List AV) : Prop := n < 64 ∧ ∃ c el fr, W.heap[n]? = some (.cells c el fr) ∧ cs.length ≤ c.size ∧ LR m00 cs (c.toList.take cs.length)
theorem goodT {W : World} {P : Program} {l : List (Nat × List AV)} (hG : P.globals.size ≤ 64) (hl : ∀ n cs, (n, cs) ∈ l → TabIn W n cs) : Good W P P.globals.size m00 (stT l).H W := by
  have hn : ∀ n o, (stT l).H n = some o → ∃ cs, o = .ro cs ∧ (n, cs) ∈ l := fun n o h => tabH_get l h
  have hv : ∀ n, live ((stT l).H n) = true → False := fun n h => by
    cases ho : (stT l).H n with
    | none => rw [ho] at h; cases h
    | some o =>
      obtain ⟨cs, rfl, _⟩ := hn n o ho
      rw [ho] at h; cases h
  refine ⟨fun n o h ho => ?_, fun n cs h => ?_, fun n n' b h => (hv n h).elim, fun g hg => ?_, fun k ob h => h⟩
  · obtain ⟨cs, rfl, _⟩ := hn n o h
    cases ho
  · obtain ⟨cs', h1, h2⟩ := hn n _ h
    cases h1
    obtain ⟨h3, c, el, fr, h4, h5, h6⟩ := hl n cs h2
    exact ⟨n, c, el, fr, if_pos h3, h4, h5, h6⟩
  · exact if_pos (by omega)
theorem freshT {l : List (Nat × List AV)} : ∀ k, (stT l).nx ≤ k → m00 k = none := fun k hk => if_neg (by show ¬ k < 64; exact Nat.not_lt.2 hk)
end Go.Proofs.YtjckgagkkknmnaaDoor.Rk
/-
  The functions as they are reckoned: printed by tools/gen_rk.py out of the program's own form; each is held against it.
-/
namespace Go.Proofs.YtjckgagkkknmnaaDoor.Rk
set_option linter.unusedVariables false
open Go
set_option maxRecDepth 100000
set_option maxHeartbeats 4000000

def p0 : Pt := .e
def p1 : Pt := .l (.e)
def p2 : Pt := .r (.e)
def p3 : Pt := .l (.l (.e))
def p4 : Pt := .r (.l (.e))
def p5 : Pt := .l (.r (.e))
def p6 : Pt := .r (.r (.e))
def p7 : Pt := .l (.l (.l (.e)))
def p8 : Pt := .r (.l (.l (.e)))
def p9 : Pt := .l (.r (.l (.e)))
def p10 : Pt := .r (.r (.l (.e)))
def p11 : Pt := .l (.l (.r (.e)))
def p12 : Pt := .r (.l (.r (.e)))
def p13 : Pt := .l (.r (.r (.e)))
def p14 : Pt := .r (.r (.r (.e)))
def p15 : Pt := .l (.l (.l (.l (.e))))
def p16 : Pt := .r (.l (.l (.l (.e))))
def p17 : Pt := .l (.r (.l (.l (.e))))
def p18 : Pt := .r (.r (.l (.l (.e))))
def p19 : Pt := .l (.l (.r (.l (.e))))
def p20 : Pt := .r (.l (.r (.l (.e))))
def p21 : Pt := .l (.r (.r (.l (.e))))
def p22 : Pt := .r (.r (.r (.l (.e))))
def p23 : Pt := .l (.l (.l (.r (.e))))
def p24 : Pt := .r (.l (.l (.r (.e))))
def p25 : Pt := .l (.r (.l (.r (.e))))
def p26 : Pt := .r (.r (.l (.r (.e))))
def p27 : Pt := .l (.l (.r (.r (.e))))
def p28 : Pt := .r (.l (.r (.r (.e))))
def p29 : Pt := .l (.r (.r (.r (.e))))
def p30 : Pt := .r (.r (.r (.r (.e))))
def p31 : Pt := .l (.l (.l (.l (.l (.e)))))
def p32 : Pt := .r (.l (.l (.l (.l (.e)))))
def p33 : Pt := .l (.r (.l (.l (.l (.e)))))
def p34 : Pt := .r (.r (.l (.l (.l (.e)))))
def p35 : Pt := .l (.l (.r (.l (.l (.e)))))
def p36 : Pt := .r (.l (.r (.l (.l (.e)))))
def p37 : Pt := .l (.r (.r (.l (.l (.e)))))
def p38 : Pt := .r (.r (.r (.l (.l (.e)))))
def p39 : Pt := .l (.l (.l (.r (.l (.e)))))
def p40 : Pt := .r (.l (.l (.r (.l (.e)))))
def p41 : Pt := .l (.r (.l (.r (.l (.e)))))
def p42 : Pt := .r (.r (.l (.r (.l (.e)))))
def p43 : Pt := .l (.l (.r (.r (.l (.e)))))
def p44 : Pt := .r (.l (.r (.r (.l (.e)))))
def p45 : Pt := .l (.r (.r (.r (.l (.e)))))
def p46 : Pt := .r (.r (.r (.r (.l (.e)))))
def p47 : Pt := .l (.l (.l (.l (.r (.e)))))
def p48 : Pt := .r (.l (.l (.l (.r (.e)))))
def p49 : Pt := .l (.r (.l (.l (.r (.e)))))
def p50 : Pt := .r (.r (.l (.l (.r (.e)))))
def p51 : Pt := .l (.l (.r (.l (.r (.e)))))
def p52 : Pt := .r (.l (.r (.l (.r (.e)))))
def p53 : Pt := .l (.r (.r (.l (.r (.e)))))
def p54 : Pt := .r (.r (.r (.l (.r (.e)))))
def p55 : Pt := .l (.l (.l (.r (.r (.e)))))
def p56 : Pt := .r (.l (.l (.r (.r (.e)))))
def p57 : Pt := .l (.r (.l (.r (.r (.e)))))
def p58 : Pt := .r (.r (.l (.r (.r (.e)))))
def p59 : Pt := .l (.l (.r (.r (.r (.e)))))
def p60 : Pt := .r (.l (.r (.r (.r (.e)))))
def p61 : Pt := .l (.r (.r (.r (.r (.e)))))
def p62 : Pt := .r (.r (.r (.r (.r (.e)))))
def p63 : Pt := .l (.l (.l (.l (.l (.l (.e))))))
def p64 : Pt := .r (.l (.l (.l (.l (.l (.e))))))
def p65 : Pt := .l (.r (.l (.l (.l (.l (.e))))))
def p66 : Pt := .r (.r (.l (.l (.l (.l (.e))))))
def p67 : Pt := .l (.l (.r (.l (.l (.l (.e))))))
def p68 : Pt := .r (.l (.r (.l (.l (.l (.e))))))
def p69 : Pt := .l (.r (.r (.l (.l (.l (.e))))))
def p70 : Pt := .r (.r (.r (.l (.l (.l (.e))))))
def p71 : Pt := .l (.l (.l (.r (.l (.l (.e))))))
def p72 : Pt := .r (.l (.l (.r (.l (.l (.e))))))
def p73 : Pt := .l (.r (.l (.r (.l (.l (.e))))))
def p74 : Pt := .r (.r (.l (.r (.l (.l (.e))))))
def p75 : Pt := .l (.l (.r (.r (.l (.l (.e))))))
def p76 : Pt := .r (.l (.r (.r (.l (.l (.e))))))
def p77 : Pt := .l (.r (.r (.r (.l (.l (.e))))))
def p78 : Pt := .r (.r (.r (.r (.l (.l (.e))))))
def p79 : Pt := .l (.l (.l (.l (.r (.l (.e))))))
def p80 : Pt := .r (.l (.l (.l (.r (.l (.e))))))
def p81 : Pt := .l (.r (.l (.l (.r (.l (.e))))))
def p82 : Pt := .r (.r (.l (.l (.r (.l (.e))))))
def p83 : Pt := .l (.l (.r (.l (.r (.l (.e))))))
def p84 : Pt := .r (.l (.r (.l (.r (.l (.e))))))
def p85 : Pt := .l (.r (.r (.l (.r (.l (.e))))))
def p86 : Pt := .r (.r (.r (.l (.r (.l (.e))))))
def p87 : Pt := .l (.l (.l (.r (.r (.l (.e))))))
def p88 : Pt := .r (.l (.l (.r (.r (.l (.e))))))
def p89 : Pt := .l (.r (.l (.r (.r (.l (.e))))))
def p90 : Pt := .r (.r (.l (.r (.r (.l (.e))))))
def p91 : Pt := .l (.l (.r (.r (.r (.l (.e))))))
def p92 : Pt := .r (.l (.r (.r (.r (.l (.e))))))
def p93 : Pt := .l (.r (.r (.r (.r (.l (.e))))))
def p94 : Pt := .r (.r (.r (.r (.r (.l (.e))))))
def p95 : Pt := .l (.l (.l (.l (.l (.r (.e))))))
def p96 : Pt := .r (.l (.l (.l (.l (.r (.e))))))
def p97 : Pt := .l (.r (.l (.l (.l (.r (.e))))))
def p98 : Pt := .r (.r (.l (.l (.l (.r (.e))))))
def p99 : Pt := .l (.l (.r (.l (.l (.r (.e))))))
def p100 : Pt := .r (.l (.r (.l (.l (.r (.e))))))
def p101 : Pt := .l (.r (.r (.l (.l (.r (.e))))))
def p102 : Pt := .r (.r (.r (.l (.l (.r (.e))))))
def p103 : Pt := .l (.l (.l (.r (.l (.r (.e))))))
def p104 : Pt := .r (.l (.l (.r (.l (.r (.e))))))
def p105 : Pt := .l (.r (.l (.r (.l (.r (.e))))))
def p106 : Pt := .r (.r (.l (.r (.l (.r (.e))))))
def p107 : Pt := .l (.l (.r (.r (.l (.r (.e))))))
def p108 : Pt := .r (.l (.r (.r (.l (.r (.e))))))
def p109 : Pt := .l (.r (.r (.r (.l (.r (.e))))))
def p110 : Pt := .r (.r (.r (.r (.l (.r (.e))))))
def p111 : Pt := .l (.l (.l (.l (.r (.r (.e))))))
def p112 : Pt := .r (.l (.l (.l (.r (.r (.e))))))
def p113 : Pt := .l (.r (.l (.l (.r (.r (.e))))))
def p114 : Pt := .r (.r (.l (.l (.r (.r (.e))))))
def p115 : Pt := .l (.l (.r (.l (.r (.r (.e))))))
def p116 : Pt := .r (.l (.r (.l (.r (.r (.e))))))
def p117 : Pt := .l (.r (.r (.l (.r (.r (.e))))))
def p118 : Pt := .r (.r (.r (.l (.r (.r (.e))))))
def p119 : Pt := .l (.l (.l (.r (.r (.r (.e))))))
def p120 : Pt := .r (.l (.l (.r (.r (.r (.e))))))
def p121 : Pt := .l (.r (.l (.r (.r (.r (.e))))))
def p122 : Pt := .r (.r (.l (.r (.r (.r (.e))))))
def p123 : Pt := .l (.l (.r (.r (.r (.r (.e))))))
def p124 : Pt := .r (.l (.r (.r (.r (.r (.e))))))
def p125 : Pt := .l (.r (.r (.r (.r (.r (.e))))))
def p126 : Pt := .r (.r (.r (.r (.r (.r (.e))))))
def p127 : Pt := .l (.l (.l (.l (.l (.l (.l (.e)))))))
def p128 : Pt := .r (.l (.l (.l (.l (.l (.l (.e)))))))
def p129 : Pt := .l (.r (.l (.l (.l (.l (.l (.e)))))))
def p130 : Pt := .r (.r (.l (.l (.l (.l (.l (.e)))))))
def p131 : Pt := .l (.l (.r (.l (.l (.l (.l (.e)))))))
def p132 : Pt := .r (.l (.r (.l (.l (.l (.l (.e)))))))
def p133 : Pt := .l (.r (.r (.l (.l (.l (.l (.e)))))))
def p134 : Pt := .r (.r (.r (.l (.l (.l (.l (.e)))))))
def p135 : Pt := .l (.l (.l (.r (.l (.l (.l (.e)))))))
def p136 : Pt := .r (.l (.l (.r (.l (.l (.l (.e)))))))
def p137 : Pt := .l (.r (.l (.r (.l (.l (.l (.e)))))))
/-- seesawlaw25.works -/
def ef9 : EFn := { id := 9, N := 42, res := [(p0, none)], code := (.seq (.region [⟨some p0, .mov (.c (.bool false)), none, 0⟩] false)
 (.seq (.region [⟨some p6, .call (.c (.fn 14 [] [])) [(.c (.int .u8 (.ofNat 1))), (.c (.int .i64 (.ofNat 0))), (.c (.int .i64 (.ofNat 0)))], none, 0⟩, ⟨some p7, .call (.c (.fn 14 [] [])) [(.c (.int .u8 (.ofNat 2))), (.c (.int .i64 (.ofNat 0))), (.c (.int .i64 (.ofNat 0)))], none, 1⟩, ⟨some p8, .build [(.int .u8 (.ofNat 0)), (.int .i64 (.ofNat 0)), (.int .i64 (.ofNat 0)), (.int .i64 (.ofNat 0)), (.int .i64 (.ofNat 0)), (.int .i64 (.ofNat 0)), (.int .u8 (.ofNat 0))] [(0, 1, (.c (.int .u8 (.ofNat 3)))), (5, 1, (.c (.int .i64 (.ofNat 7))))], none, 0⟩, ⟨some p9, .call (.c (.fn 14 [] [])) [(.c (.int .u8 (.ofNat 7))), (.c (.int .i64 (.ofNat 0))), (.c (.int .i64 (.ofNat 0)))], none, 3⟩, ⟨some p10, .buildSl [(.int .u8 (.ofNat 0)), (.int .i64 (.ofNat 0)), (.int .i64 (.ofNat 0)), (.int .i64 (.ofNat 0)), (.int .i64 (.ofNat 0)), (.int .i64 (.ofNat 0)), (.int .u8 (.ofNat 0)), (.int .u8 (.ofNat 0)), (.int .i64 (.ofNat 0)), (.int .i64 (.ofNat 0)), (.int .i64 (.ofNat 0)), (.int .i64 (.ofNat 0)), (.int .i64 (.ofNat 0)), (.int .u8 (.ofNat 0)), (.int .u8 (.ofNat 0)), (.int .i64 (.ofNat 0)), (.int .i64 (.ofNat 0)), (.int .i64 (.ofNat 0)), (.int .i64 (.ofNat 0)), (.int .i64 (.ofNat 0)), (.int .u8 (.ofNat 0)), (.int .u8 (.ofNat 0)), (.int .i64 (.ofNat 0)), (.int .i64 (.ofNat 0)), (.int .i64 (.ofNat 0)), (.int .i64 (.ofNat 0)), (.int .i64 (.ofNat 0)), (.int .u8 (.ofNat 0))] 4 [(0, 7, (.t p6)), (7, 7, (.t p7)), (14, 7, (.t p8)), (21, 7, (.t p9))], none, 15⟩, ⟨some p11, .call (.c (.fn 15 [] [])) [(.t p10)], none, 31⟩, ⟨some p12, .call (.c (.fn 10 [] [])) [(.t p11)], none, 63⟩, ⟨some p5, .mov (.t p12), none, 127⟩, ⟨some p13, .ext 0 (.t p5), none, 255⟩, ⟨some p14, .ext 1 (.t p5), none, 255⟩, ⟨some p1, .mov (.t p13), none, 511⟩, ⟨some p2, .mov (.t p14), none, 2047⟩] false)
 (.seq (.region [⟨some p16, .call (.c (.fn 14 [] [])) [(.c (.int .u8 (.ofNat 1))), (.c (.int .i64 (.ofNat 0))), (.c (.int .i64 (.ofNat 0)))], none, 0⟩, ⟨some p17, .buildSl [(.int .u8 (.ofNat 0)), (.int .i64 (.ofNat 0)), (.int .i64 (.ofNat 0)), (.int .i64 (.ofNat 0)), (.int .i64 (.ofNat 0)), (.int .i64 (.ofNat 0)), (.int .u8 (.ofNat 0))] 1 [(0, 7, (.t p16))], none, 1⟩, ⟨some p18, .call (.c (.fn 15 [] [])) [(.t p17)], none, 3⟩, ⟨some p19, .call (.c (.fn 10 [] [])) [(.t p18)], none, 7⟩, ⟨some p15, .mov (.t p19), none, 15⟩, ⟨some p20, .ext 0 (.t p15), none, 31⟩, ⟨some p21, .ext 1 (.t p15), none, 31⟩, ⟨some p3, .mov (.t p20), none, 63⟩, ⟨some p4, .mov (.t p21), none, 255⟩] false)
 (.seq (.region [⟨some p22, .mov (.t p2), none, 0⟩, ⟨some p23, .bin .eql (.t p22) (.c (.int .i64 (.ofNat 0))), none, 1⟩, ⟨some p24, .mov (.t p23), none, 3⟩, ⟨some p25, .mov (.t p4), some (p24, true), 7⟩, ⟨some p26, .bin .eql (.t p25) (.c (.int .i64 (.ofNat 0))), some (p24, true), 15⟩, ⟨some p27, .pick (.t p24) (.t p26) (.c (.bool false)), none, 31⟩, ⟨some p28, .mov (.t p27), none, 63⟩, ⟨some p29, .mov (.t p1), some (p28, true), 127⟩, ⟨some p30, .build [(.int .i64 (.ofNat 0)), (.int .i64 (.ofNat 0))] [(0, 1, (.c (.int .i64 (.ofNat 0)))), (1, 1, (.c (.int .i64 (.ofNat 7))))], some (p28, true), 127⟩, ⟨some p31, .buildSl [(.int .i64 (.ofNat 0)), (.int .i64 (.ofNat 0))] 1 [(0, 2, (.t p30))], some (p28, true), 383⟩, ⟨some p32, .build [(.int .i64 (.ofNat 0)), (.int .i64 (.ofNat 0)), (.int .i64 (.ofNat 0)), (.int .i64 (.ofNat 0)), (.int .i64 (.ofNat 0)), (.int .i64 (.ofNat 0)), (.bool false), .nils, .nils] [(2, 1, (.c (.int .i64 (.ofNat 0)))), (3, 1, (.c (.int .i64 (.ofNat 3)))), (6, 1, (.c (.bool true))), (7, 1, (.t p31))], some (p28, true), 895⟩, ⟨some p33, .buildSl [(.int .i64 (.ofNat 0)), (.int .i64 (.ofNat 0)), (.int .i64 (.ofNat 0)), (.int .i64 (.ofNat 0)), (.int .i64 (.ofNat 0)), (.int .i64 (.ofNat 0)), (.bool false), .nils, .nils] 1 [(0, 9, (.t p32))], some (p28, true), 1919⟩, ⟨some p34, .call (.c (.fn 16 [] [])) [(.t p29), (.t p33)], some (p28, true), 4095⟩, ⟨some p35, .pick (.t p28) (.t p34) (.c (.bool false)), none, 8191⟩, ⟨some p36, .mov (.t p35), none, 16383⟩, ⟨some p37, .mov (.t p3), some (p36, true), 32767⟩, ⟨some p38, .build [(.int .i64 (.ofNat 0)), (.int .i64 (.ofNat 0)), (.int .i64 (.ofNat 0)), (.int .i64 (.ofNat 0)), (.int .i64 (.ofNat 0)), (.int .i64 (.ofNat 0)), (.bool false), .nils, .nils] [(2, 1, (.c (.int .i64 (.ofNat 0)))), (3, 1, (.c (.int .i64 (.negSucc 0))))], some (p36, true), 32767⟩, ⟨some p39, .buildSl [(.int .i64 (.ofNat 0)), (.int .i64 (.ofNat 0)), (.int .i64 (.ofNat 0)), (.int .i64 (.ofNat 0)), (.int .i64 (.ofNat 0)), (.int .i64 (.ofNat 0)), (.bool false), .nils, .nils] 1 [(0, 9, (.t p38))], some (p36, true), 98303⟩, ⟨some p40, .call (.c (.fn 16 [] [])) [(.t p37), (.t p39)], some (p36, true), 262143⟩, ⟨some p41, .pick (.t p36) (.t p40) (.c (.bool false)), none, 524287⟩, ⟨some p0, .mov (.t p41), none, 1048575⟩] false)
 .ret)))) }
theorem ok9 : cFn Tryd.prog 9 = some ef9 := by kernel_rfl
/-- history.Of -/
def ef10 : EFn := { id := 10, N := 138, res := [(p2, none), (p3, none)], code := (.seq (.region [⟨some p1, .box (.t p0), none, 0⟩, ⟨some p2, .mov (.c .nils), none, 0⟩, ⟨some p3, .mov (.c (.int .i64 (.ofNat 0))), none, 2⟩] false)
 (.seq (.seq (.region [⟨some p14, .loadN 4 (.t p1), none, 0⟩, ⟨some p15, .call (.c (.fn 12 [] [])) [(.t p14)], none, 1⟩, ⟨some p13, .mov (.t p15), none, 3⟩, ⟨some p16, .ext 0 (.t p13), none, 7⟩, ⟨some p17, .ext 1 (.t p13), none, 7⟩, ⟨some p4, .mov (.t p16), none, 15⟩, ⟨some p5, .mov (.t p17), none, 63⟩] false)
 (.seq (.region [⟨some p18, .mov (.t p5), none, 0⟩, ⟨some p19, .bin .neq (.t p18) (.c (.int .i64 (.ofNat 0))), none, 1⟩] false)
 (.cond (.t p19) (.seq (.region [⟨some p20, .mov (.t p5), none, 0⟩, ⟨some p2, .mov (.c .nils), none, 0⟩, ⟨some p3, .mov (.t p20), none, 3⟩] false)
 .ret) .skip)))
 (.seq (.region [⟨some p6, .alloc [.nils], none, 0⟩] false)
 (.seq (.region [⟨some p7, .alloc [.nils], none, 0⟩] false)
 (.seq (.seq (.region [⟨some p21, .loadN 4 (.t p1), none, 0⟩, ⟨some p22, .call (.c (.fn 21 [] [])) [(.t p21)], none, 1⟩] false)
 (.block 0 (.rangeF (.t p22) [p23, p24] (.seq (.region [⟨some p8, .mov (.t p23), none, 0⟩] false)
 (.region [⟨some p9, .mov (.t p24), none, 0⟩] false)) (.block 1 (.seq (.region [⟨some p25, .faddr 3 (.t p1), none, 0⟩, ⟨some p26, .load1 (.t p25), none, 1⟩, ⟨some p27, .mov (.t p8), none, 0⟩, ⟨some p28, .iaddrS 7 (.t p26) (.t p27), none, 7⟩, ⟨some p29, .loadN 7 (.t p28), none, 15⟩, ⟨some p10, .alloc [(.int .u8 (.ofNat 0)), (.int .i64 (.ofNat 0)), (.int .i64 (.ofNat 0)), (.int .i64 (.ofNat 0)), (.int .i64 (.ofNat 0)), (.int .i64 (.ofNat 0)), (.int .u8 (.ofNat 0))], none, 0⟩, ⟨none, .store 7 (.t p10) (.t p29), none, 63⟩] false)
 (.seq (.seq (.region [⟨some p30, .faddr 0 (.t p10), none, 0⟩, ⟨some p31, .load1 (.t p30), none, 1⟩, ⟨some p32, .bin .eql (.t p31) (.c (.int .u8 (.ofNat 1))), none, 3⟩] false)
 (.cond (.t p32) (.seq (.region [⟨some p33, .load1 (.t p6), none, 0⟩, ⟨some p34, .faddr 1 (.t p10), none, 0⟩, ⟨some p35, .load1 (.t p34), none, 2⟩, ⟨some p36, .faddr 2 (.t p10), none, 0⟩, ⟨some p37, .load1 (.t p36), none, 8⟩, ⟨some p38, .mov (.t p8), none, 0⟩, ⟨some p39, .faddr 4 (.t p10), none, 0⟩, ⟨some p40, .load1 (.t p39), none, 64⟩, ⟨some p41, .build [(.int .i64 (.ofNat 0)), (.int .i64 (.ofNat 0)), (.int .i64 (.ofNat 0)), (.int .i64 (.ofNat 0)), (.int .i64 (.ofNat 0)), (.int .i64 (.ofNat 0)), (.bool false), .nils, .nils] [(0, 1, (.t p35)), (1, 1, (.t p37)), (2, 1, (.t p38)), (3, 1, (.c (.int .i64 (.negSucc 0)))), (4, 1, (.t p40))], none, 254⟩, ⟨some p42, .buildSl [(.int .i64 (.ofNat 0)), (.int .i64 (.ofNat 0)), (.int .i64 (.ofNat 0)), (.int .i64 (.ofNat 0)), (.int .i64 (.ofNat 0)), (.int .i64 (.ofNat 0)), (.bool false), .nils, .nils] 1 [(0, 9, (.t p41))], none, 510⟩, ⟨some p43, .app 9 (.t p33) (.t p42), none, 1023⟩, ⟨none, .store 1 (.t p6) (.t p43), none, 2047⟩] false)
 (.seq (.region [⟨some p44, .load1 (.t p7), none, 0⟩, ⟨some p45, .buildSl [(.int .i64 (.ofNat 0))] 1 [(0, 1, (.c (.int .i64 (.ofNat 0))))], none, 0⟩, ⟨some p46, .app 1 (.t p44) (.t p45), none, 3⟩, ⟨none, .store 1 (.t p7) (.t p46), none, 7⟩] false)
 (.exit 1))) .skip))
 (.seq (.seq (.region [⟨some p47, .mov (.t p9), none, 0⟩, ⟨some p48, .bin .eql (.t p47) (.c (.int .i64 (.negSucc 0))), none, 1⟩] false)
 (.cond (.t p48) (.exit 1) .skip))
 (.seq (.region [⟨some p49, .load1 (.t p6), none, 0⟩, ⟨some p50, .mov (.t p9), none, 0⟩, ⟨some p51, .iaddrS 9 (.t p49) (.t p50), none, 3⟩, ⟨some p11, .mov (.t p51), none, 7⟩] false)
 (.seq (.region [⟨some p12, .mov (.c (.bool false)), none, 0⟩] false)
 (.seq (.seq (.region [⟨some p52, .faddr 0 (.t p10), none, 0⟩, ⟨some p53, .load1 (.t p52), none, 1⟩] false)
 (.block 2 (.seq (.region [⟨some p55, .bin .eql (.t p53) (.c (.int .u8 (.ofNat 3))), none, 0⟩, ⟨some p54, .mov (.t p55), none, 1⟩] false)
 (.cond (.t p54) (.region [⟨some p56, .mov (.t p11), none, 0⟩, ⟨some p57, .mov (.t p11), none, 0⟩, ⟨some p58, .nilck (.t p57), none, 2⟩, ⟨some p59, .faddr 7 (.t p58), none, 6⟩, ⟨some p60, .load1 (.t p59), none, 14⟩, ⟨some p61, .faddr 3 (.t p10), none, 0⟩, ⟨some p62, .load1 (.t p61), none, 32⟩, ⟨some p63, .faddr 5 (.t p10), none, 0⟩, ⟨some p64, .load1 (.t p63), none, 128⟩, ⟨some p65, .build [(.int .i64 (.ofNat 0)), (.int .i64 (.ofNat 0))] [(0, 1, (.t p62)), (1, 1, (.t p64))], none, 480⟩, ⟨some p66, .buildSl [(.int .i64 (.ofNat 0)), (.int .i64 (.ofNat 0))] 1 [(0, 2, (.t p65))], none, 992⟩, ⟨some p67, .app 2 (.t p60) (.t p66), none, 2046⟩, ⟨some p68, .nilck (.t p56), none, 4095⟩, ⟨some p69, .faddr 7 (.t p68), none, 8191⟩, ⟨none, .store 1 (.t p69) (.t p67), none, 16383⟩] true) (.seq (.region [⟨some p71, .bin .eql (.t p53) (.c (.int .u8 (.ofNat 8))), none, 0⟩, ⟨some p70, .mov (.t p71), none, 1⟩] false)
 (.cond (.t p70) (.region [⟨some p72, .mov (.t p11), none, 0⟩, ⟨some p73, .mov (.t p11), none, 0⟩, ⟨some p74, .nilck (.t p73), none, 2⟩, ⟨some p75, .faddr 8 (.t p74), none, 6⟩, ⟨some p76, .load1 (.t p75), none, 14⟩, ⟨some p77, .faddr 3 (.t p10), none, 0⟩, ⟨some p78, .load1 (.t p77), none, 32⟩, ⟨some p79, .faddr 5 (.t p10), none, 0⟩, ⟨some p80, .load1 (.t p79), none, 128⟩, ⟨some p81, .build [(.int .i64 (.ofNat 0)), (.int .i64 (.ofNat 0))] [(0, 1, (.t p78)), (1, 1, (.t p80))], none, 480⟩, ⟨some p82, .buildSl [(.int .i64 (.ofNat 0)), (.int .i64 (.ofNat 0))] 1 [(0, 2, (.t p81))], none, 992⟩, ⟨some p83, .app 2 (.t p76) (.t p82), none, 2046⟩, ⟨some p84, .nilck (.t p72), none, 4095⟩, ⟨some p85, .faddr 8 (.t p84), none, 8191⟩, ⟨none, .store 1 (.t p85) (.t p83), none, 16383⟩] true) (.seq (.region [⟨some p87, .bin .eql (.t p53) (.c (.int .u8 (.ofNat 4))), none, 0⟩, ⟨some p86, .mov (.t p87), none, 1⟩] false)
 (.cond (.t p86) (.region [⟨some p88, .load1 (.t p7), none, 0⟩, ⟨some p89, .mov (.t p9), none, 0⟩, ⟨some p90, .iaddrS 1 (.t p88) (.t p89), none, 3⟩, ⟨some p91, .load1 (.t p90), none, 7⟩, ⟨some p92, .bin .add (.t p91) (.c (.int .i64 (.ofNat 1))), none, 15⟩, ⟨some p93, .iaddrS 1 (.t p88) (.t p89), none, 31⟩, ⟨none, .store 1 (.t p93) (.t p92), none, 63⟩] false) (.seq (.region [⟨some p95, .bin .eql (.t p53) (.c (.int .u8 (.ofNat 7))), none, 0⟩, ⟨some p94, .mov (.t p95), none, 1⟩] false)
 (.cond (.t p94) (.seq (.region [⟨some p96, .mov (.t p11), none, 0⟩, ⟨some p97, .mov (.t p11), none, 0⟩, ⟨some p98, .faddr 4 (.t p10), none, 0⟩, ⟨some p99, .load1 (.t p98), none, 4⟩, ⟨some p100, .nilck (.t p96), none, 1⟩, ⟨some p101, .faddr 6 (.t p100), none, 17⟩, ⟨none, .store 1 (.t p101) (.c (.bool true)), none, 49⟩, ⟨some p102, .nilck (.t p97), none, 127⟩, ⟨some p103, .faddr 5 (.t p102), none, 255⟩, ⟨none, .store 1 (.t p103) (.t p99), none, 511⟩] true)
 (.region [⟨some p104, .load1 (.t p7), none, 0⟩, ⟨some p105, .mov (.t p9), none, 0⟩, ⟨some p106, .iaddrS 1 (.t p104) (.t p105), none, 3⟩, ⟨some p107, .load1 (.t p106), none, 7⟩, ⟨some p108, .bin .eql (.t p107) (.c (.int .i64 (.ofNat 0))), none, 15⟩, ⟨some p12, .mov (.t p108), none, 31⟩] false)) (.seq (.seq (.region [⟨some p110, .bin .eql (.t p53) (.c (.int .u8 (.ofNat 9))), none, 0⟩, ⟨some p109, .mov (.t p110), none, 1⟩] false)
 (.cond (.t p109) .skip (.region [⟨some p111, .bin .eql (.t p53) (.c (.int .u8 (.ofNat 11))), none, 0⟩, ⟨some p109, .mov (.t p111), none, 1⟩] false)))
 (.cond (.t p109) (.seq (.region [⟨some p112, .load1 (.t p7), none, 0⟩, ⟨some p113, .mov (.t p9), none, 0⟩, ⟨some p114, .iaddrS 1 (.t p112) (.t p113), none, 3⟩, ⟨some p115, .load1 (.t p114), none, 7⟩, ⟨some p116, .bin .sub (.t p115) (.c (.int .i64 (.ofNat 1))), none, 15⟩, ⟨some p117, .iaddrS 1 (.t p112) (.t p113), none, 31⟩, ⟨none, .store 1 (.t p117) (.t p116), none, 63⟩] false)
 (.region [⟨some p118, .load1 (.t p7), none, 0⟩, ⟨some p119, .mov (.t p9), none, 0⟩, ⟨some p120, .iaddrS 1 (.t p118) (.t p119), none, 3⟩, ⟨some p121, .load1 (.t p120), none, 7⟩, ⟨some p122, .bin .eql (.t p121) (.c (.int .i64 (.ofNat 0))), none, 15⟩, ⟨some p12, .mov (.t p122), none, 31⟩] false)) (.seq (.region [⟨some p124, .bin .eql (.t p53) (.c (.int .u8 (.ofNat 10))), none, 0⟩, ⟨some p123, .mov (.t p124), none, 1⟩] false)
 (.cond (.t p123) (.region [⟨some p125, .load1 (.t p7), none, 0⟩, ⟨some p126, .mov (.t p9), none, 0⟩, ⟨some p127, .iaddrS 1 (.t p125) (.t p126), none, 3⟩, ⟨some p128, .load1 (.t p127), none, 7⟩, ⟨some p129, .bin .eql (.t p128) (.c (.int .i64 (.ofNat 0))), none, 15⟩, ⟨some p12, .mov (.t p129), none, 31⟩] false) (.seq (.region [⟨some p131, .bin .eql (.t p53) (.c (.int .u8 (.ofNat 12))), none, 0⟩, ⟨some p130, .mov (.t p131), none, 1⟩] false)
 (.cond (.t p130) (.region [⟨some p12, .mov (.c (.bool true)), none, 0⟩] false) .skip))))))))))))))))
 (.seq (.region [⟨some p132, .mov (.t p12), none, 0⟩] false)
 (.cond (.t p132) (.region [⟨some p133, .mov (.t p11), none, 0⟩, ⟨some p134, .mov (.t p8), none, 0⟩, ⟨some p135, .nilck (.t p133), none, 3⟩, ⟨some p136, .faddr 3 (.t p135), none, 7⟩, ⟨none, .store 1 (.t p136) (.t p134), none, 15⟩] false) .skip))))))))))))
 (.seq (.region [⟨some p137, .load1 (.t p6), none, 0⟩, ⟨some p2, .mov (.t p137), none, 1⟩, ⟨some p3, .mov (.c (.int .i64 (.ofNat 0))), none, 3⟩] false)
 .ret)))))) }
theorem ok10 : cFn Tryd.prog 10 = some ef10 := by kernel_rfl
/-- seesawlaw25.ev -/
def ef14 : EFn := { id := 14, N := 11, res := [(p6, some (some 7))], code := (.seq (.region [⟨some p6, .alloc [(.int .u8 (.ofNat 0)), (.int .i64 (.ofNat 0)), (.int .i64 (.ofNat 0)), (.int .i64 (.ofNat 0)), (.int .i64 (.ofNat 0)), (.int .i64 (.ofNat 0)), (.int .u8 (.ofNat 0))], none, 0⟩] false)
 (.seq (.region [⟨some p7, .mov (.t p0), none, 0⟩, ⟨some p8, .mov (.t p1), none, 0⟩, ⟨some p9, .mov (.t p2), none, 0⟩, ⟨some p10, .build [(.int .u8 (.ofNat 0)), (.int .i64 (.ofNat 0)), (.int .i64 (.ofNat 0)), (.int .i64 (.ofNat 0)), (.int .i64 (.ofNat 0)), (.int .i64 (.ofNat 0)), (.int .u8 (.ofNat 0))] [(0, 1, (.t p7)), (3, 1, (.t p8)), (4, 1, (.t p9))], none, 7⟩, ⟨none, .store 7 (.t p6) (.t p10), none, 15⟩] false)
 .ret)) }
theorem ok14 : cFn Tryd.prog 14 = some ef14 := by kernel_rfl
/-- seesawlaw25.over -/
def ef15 : EFn := { id := 15, N := 5, res := [(p2, some (some 4))], code := (.seq (.region [⟨some p2, .alloc [(.int .i64 (.ofNat 0)), (.int .i64 (.ofNat 0)), (.int .i64 (.ofNat 0)), .nils], none, 0⟩] false)
 (.seq (.region [⟨some p3, .mov (.t p0), none, 0⟩, ⟨some p4, .build [(.int .i64 (.ofNat 0)), (.int .i64 (.ofNat 0)), (.int .i64 (.ofNat 0)), .nils] [(0, 1, (.c (.int .i64 (.ofNat 2)))), (1, 1, (.c (.int .i64 (.ofNat 3)))), (2, 1, (.c (.int .i64 (.ofNat 2)))), (3, 1, (.t p3))], none, 1⟩, ⟨none, .store 4 (.t p2) (.t p4), none, 3⟩] false)
 .ret)) }
theorem ok15 : cFn Tryd.prog 15 = some ef15 := by kernel_rfl
/-- seesawref25.Same -/
def ef16 : EFn := { id := 16, N := 90, res := [(p4, none)], code := (.seq (.region [⟨some p4, .mov (.c (.bool false)), none, 0⟩] false)
 (.seq (.seq (.region [⟨some p8, .mov (.t p0), none, 0⟩, ⟨some p9, .len false (.t p8), none, 1⟩, ⟨some p10, .mov (.t p1), none, 0⟩, ⟨some p11, .len false (.t p10), none, 4⟩, ⟨some p12, .bin .neq (.t p9) (.t p11), none, 15⟩] false)
 (.cond (.t p12) (.seq (.region [⟨some p4, .mov (.c (.bool false)), none, 0⟩] false)
 .ret) .skip))
 (.seq (.seq (.region [⟨some p5, .mov (.c (.int .i64 (.ofNat 0))), none, 0⟩] false)
 (.block 0 (.loop (.seq (.seq (.region [⟨some p13, .mov (.t p5), none, 0⟩, ⟨some p14, .mov (.t p0), none, 0⟩, ⟨some p15, .len false (.t p14), none, 2⟩, ⟨some p16, .bin .lss (.t p13) (.t p15), none, 7⟩] false)
 (.cond (.t p16) .skip (.exit 0)))
 (.seq (.block 1 (.seq (.region [⟨some p19, .mov (.t p0), none, 0⟩, ⟨some p20, .mov (.t p5), none, 0⟩, ⟨some p21, .iaddrS 9 (.t p19) (.t p20), none, 3⟩, ⟨some p22, .loadN 9 (.t p21), none, 7⟩, ⟨some p23, .mov (.t p1), none, 0⟩, ⟨some p24, .mov (.t p5), none, 0⟩, ⟨some p25, .iaddrS 9 (.t p23) (.t p24), none, 48⟩, ⟨some p26, .loadN 9 (.t p25), none, 112⟩, ⟨some p6, .alloc [(.int .i64 (.ofNat 0)), (.int .i64 (.ofNat 0)), (.int .i64 (.ofNat 0)), (.int .i64 (.ofNat 0)), (.int .i64 (.ofNat 0)), (.int .i64 (.ofNat 0)), (.bool false), .nils, .nils], none, 0⟩, ⟨some p7, .alloc [(.int .i64 (.ofNat 0)), (.int .i64 (.ofNat 0)), (.int .i64 (.ofNat 0)), (.int .i64 (.ofNat 0)), (.int .i64 (.ofNat 0)), (.int .i64 (.ofNat 0)), (.bool false), .nils, .nils], none, 0⟩, ⟨none, .store 9 (.t p6) (.t p22), none, 783⟩, ⟨none, .store 9 (.t p7) (.t p26), none, 2047⟩] true)
 (.seq (.region [⟨some p27, .faddr 0 (.t p6), none, 0⟩, ⟨some p28, .load1 (.t p27), none, 1⟩, ⟨some p29, .faddr 0 (.t p7), none, 0⟩, ⟨some p30, .load1 (.t p29), none, 4⟩, ⟨some p31, .bin .neq (.t p28) (.t p30), none, 15⟩, ⟨some p32, .mov (.t p31), none, 31⟩, ⟨some p33, .faddr 1 (.t p6), some (p32, false), 63⟩, ⟨some p34, .load1 (.t p33), some (p32, false), 127⟩, ⟨some p35, .faddr 1 (.t p7), some (p32, false), 63⟩, ⟨some p36, .load1 (.t p35), some (p32, false), 319⟩, ⟨some p37, .bin .neq (.t p34) (.t p36), some (p32, false), 1023⟩, ⟨some p38, .pick (.t p32) (.c (.bool true)) (.t p37), none, 2047⟩, ⟨some p39, .mov (.t p38), none, 4095⟩, ⟨some p40, .faddr 2 (.t p6), some (p39, false), 8191⟩, ⟨some p41, .load1 (.t p40), some (p39, false), 16383⟩, ⟨some p42, .faddr 2 (.t p7), some (p39, false), 8191⟩, ⟨some p43, .load1 (.t p42), some (p39, false), 40959⟩, ⟨some p44, .bin .neq (.t p41) (.t p43), some (p39, false), 131071⟩, ⟨some p45, .pick (.t p39) (.c (.bool true)) (.t p44), none, 262143⟩, ⟨some p46, .mov (.t p45), none, 524287⟩, ⟨some p47, .faddr 3 (.t p6), some (p46, false), 1048575⟩, ⟨some p48, .load1 (.t p47), some (p46, false), 2097151⟩, ⟨some p49, .faddr 3 (.t p7), some (p46, false), 1048575⟩, ⟨some p50, .load1 (.t p49), some (p46, false), 5242879⟩, ⟨some p51, .bin .neq (.t p48) (.t p50), some (p46, false), 16777215⟩, ⟨some p52, .pick (.t p46) (.c (.bool true)) (.t p51), none, 33554431⟩, ⟨some p53, .mov (.t p52), none, 67108863⟩, ⟨some p54, .faddr 4 (.t p6), some (p53, false), 134217727⟩, ⟨some p55, .load1 (.t p54), some (p53, false), 268435455⟩, ⟨some p56, .faddr 4 (.t p7), some (p53, false), 134217727⟩, ⟨some p57, .load1 (.t p56), some (p53, false), 671088639⟩, ⟨some p58, .bin .neq (.t p55) (.t p57), some (p53, false), 2147483647⟩, ⟨some p59, .pick (.t p53) (.c (.bool true)) (.t p58), none, 4294967295⟩, ⟨some p60, .mov (.t p59), none, 8589934591⟩, ⟨some p61, .faddr 5 (.t p6), some (p60, false), 17179869183⟩, ⟨some p62, .load1 (.t p61), some (p60, false), 34359738367⟩, ⟨some p63, .faddr 5 (.t p7), some (p60, false), 17179869183⟩, ⟨some p64, .load1 (.t p63), some (p60, false), 85899345919⟩, ⟨some p65, .bin .neq (.t p62) (.t p64), some (p60, false), 274877906943⟩, ⟨some p66, .pick (.t p60) (.c (.bool true)) (.t p65), none, 549755813887⟩, ⟨some p67, .mov (.t p66), none, 1099511627775⟩, ⟨some p68, .faddr 6 (.t p6), some (p67, false), 2199023255551⟩, ⟨some p69, .load1 (.t p68), some (p67, false), 4398046511103⟩, ⟨some p70, .faddr 6 (.t p7), some (p67, false), 2199023255551⟩, ⟨some p71, .load1 (.t p70), some (p67, false), 10995116277759⟩, ⟨some p72, .eq true .bool (.t p69) (.t p71), some (p67, false), 35184372088831⟩, ⟨some p73, .pick (.t p67) (.c (.bool true)) (.t p72), none, 70368744177663⟩, ⟨some p74, .mov (.t p73), none, 140737488355327⟩, ⟨some p75, .faddr 7 (.t p6), some (p74, false), 281474976710655⟩, ⟨some p76, .load1 (.t p75), some (p74, false), 562949953421311⟩, ⟨some p77, .faddr 7 (.t p7), some (p74, false), 281474976710655⟩, ⟨some p78, .load1 (.t p77), some (p74, false), 1407374883553279⟩, ⟨some p79, .call (.c (.fn 24 [] [])) [(.t p76), (.t p78)], some (p74, false), 4503599627370495⟩, ⟨some p80, .un .not (.t p79), some (p74, false), 9007199254740991⟩, ⟨some p81, .pick (.t p74) (.c (.bool true)) (.t p80), none, 18014398509481983⟩, ⟨some p82, .mov (.t p81), none, 36028797018963967⟩, ⟨some p83, .faddr 8 (.t p6), some (p82, false), 72057594037927935⟩, ⟨some p84, .load1 (.t p83), some (p82, false), 144115188075855871⟩, ⟨some p85, .faddr 8 (.t p7), some (p82, false), 72057594037927935⟩, ⟨some p86, .load1 (.t p85), some (p82, false), 360287970189639679⟩, ⟨some p87, .call (.c (.fn 24 [] [])) [(.t p84), (.t p86)], some (p82, false), 1152921504606846975⟩, ⟨some p88, .un .not (.t p87), some (p82, false), 2305843009213693951⟩, ⟨some p89, .pick (.t p82) (.c (.bool true)) (.t p88), none, 4611686018427387903⟩] false)
 (.cond (.t p89) (.seq (.region [⟨some p4, .mov (.c (.bool false)), none, 0⟩] false)
 .ret) .skip))))
 (.region [⟨some p17, .mov (.t p5), none, 0⟩, ⟨some p18, .bin .add (.t p17) (.c (.int .i64 (.ofNat 1))), none, 1⟩, ⟨some p5, .mov (.t p18), none, 3⟩] false))))))
 (.seq (.region [⟨some p4, .mov (.c (.bool true)), none, 0⟩] false)
 .ret)))) }
theorem ok16 : cFn Tryd.prog 16 = some ef16 := by kernel_rfl
/-- history.events -/
def ef21 : EFn := { id := 21, N := 4, res := [(p2, none)], code := (.seq (.region [⟨some p1, .box (.t p0), none, 0⟩, ⟨some p2, .mov (.c .nilf), none, 0⟩] false)
 (.seq (.region [⟨some p3, .mkfn 29 [] [(.t p1)], none, 0⟩, ⟨some p2, .mov (.t p3), none, 1⟩] false)
 .ret)) }
theorem ok21 : cFn Tryd.prog 21 = some ef21 := by kernel_rfl
/-- seesawref08.Pairs -/
def ef24 : EFn := { id := 24, N := 26, res := [(p4, none)], code := (.seq (.region [⟨some p4, .mov (.c (.bool false)), none, 0⟩] false)
 (.seq (.seq (.region [⟨some p6, .mov (.t p0), none, 0⟩, ⟨some p7, .len false (.t p6), none, 1⟩, ⟨some p8, .mov (.t p1), none, 0⟩, ⟨some p9, .len false (.t p8), none, 4⟩, ⟨some p10, .bin .neq (.t p7) (.t p9), none, 15⟩] false)
 (.cond (.t p10) (.seq (.region [⟨some p4, .mov (.c (.bool false)), none, 0⟩] false)
 .ret) .skip))
 (.seq (.seq (.region [⟨some p5, .mov (.c (.int .i64 (.ofNat 0))), none, 0⟩] false)
 (.block 0 (.loop (.seq (.seq (.region [⟨some p11, .mov (.t p5), none, 0⟩, ⟨some p12, .mov (.t p0), none, 0⟩, ⟨some p13, .len false (.t p12), none, 2⟩, ⟨some p14, .bin .lss (.t p11) (.t p13), none, 7⟩] false)
 (.cond (.t p14) .skip (.exit 0)))
 (.seq (.block 1 (.seq (.region [⟨some p17, .mov (.t p0), none, 0⟩, ⟨some p18, .mov (.t p5), none, 0⟩, ⟨some p19, .iaddrS 2 (.t p17) (.t p18), none, 3⟩, ⟨some p20, .loadN 2 (.t p19), none, 7⟩, ⟨some p21, .mov (.t p1), none, 0⟩, ⟨some p22, .mov (.t p5), none, 0⟩, ⟨some p23, .iaddrS 2 (.t p21) (.t p22), none, 48⟩, ⟨some p24, .loadN 2 (.t p23), none, 112⟩, ⟨some p25, .eq true (.ints [0, 1]) (.t p20) (.t p24), none, 255⟩] true)
 (.cond (.t p25) (.seq (.region [⟨some p4, .mov (.c (.bool false)), none, 0⟩] false)
 .ret) .skip)))
 (.region [⟨some p15, .mov (.t p5), none, 0⟩, ⟨some p16, .bin .add (.t p15) (.c (.int .i64 (.ofNat 1))), none, 1⟩, ⟨some p5, .mov (.t p16), none, 3⟩] false))))))
 (.seq (.region [⟨some p4, .mov (.c (.bool true)), none, 0⟩] false)
 .ret)))) }
theorem ok24 : cFn Tryd.prog 24 = some ef24 := by kernel_rfl
/-- history.events$1 -/
def ef29 : EFn := { id := 29, N := 40, res := [], code := (.seq (.region [⟨some p8, .mkmap, none, 0⟩, ⟨some p3, .mov (.t p8), none, 1⟩] false)
 (.seq (.region [⟨some p4, .mov (.c (.int .i64 (.ofNat 0))), none, 0⟩] false)
 (.seq (.region [⟨some p9, .faddr 3 (.t p1), none, 0⟩, ⟨some p10, .load1 (.t p9), none, 1⟩, ⟨some p11, .len false (.t p10), none, 3⟩, ⟨some p12, .mov (.c (.int .i64 (.ofNat 0))), none, 0⟩] false)
 (.block 0 (.loop (.seq (.region [⟨some p13, .bin .lss (.t p12) (.t p11), none, 0⟩] false)
 (.seq (.cond (.t p13) .skip (.exit 0))
 (.seq (.block 1 (.seq (.region [⟨some p14, .mov (.t p12), none, 0⟩, ⟨some p15, .iaddrS 7 (.t p10) (.t p12), none, 0⟩, ⟨some p16, .loadN 7 (.t p15), none, 2⟩, ⟨some p6, .alloc [(.int .u8 (.ofNat 0)), (.int .i64 (.ofNat 0)), (.int .i64 (.ofNat 0)), (.int .i64 (.ofNat 0)), (.int .i64 (.ofNat 0)), (.int .i64 (.ofNat 0)), (.int .u8 (.ofNat 0))], none, 0⟩, ⟨some p5, .mov (.t p14), none, 15⟩, ⟨none, .store 7 (.t p6) (.t p16), none, 31⟩] false)
 (.seq (.region [⟨some p7, .mov (.c (.int .i64 (.negSucc 0))), none, 0⟩] false)
 (.seq (.seq (.region [⟨some p17, .faddr 0 (.t p6), none, 0⟩, ⟨some p18, .load1 (.t p17), none, 1⟩] false)
 (.block 2 (.seq (.region [⟨some p24, .bin .eql (.t p18) (.c (.int .u8 (.ofNat 1))), none, 0⟩, ⟨some p23, .mov (.t p24), none, 1⟩] false)
 (.cond (.t p23) (.seq (.region [⟨some p25, .mov (.t p3), none, 0⟩, ⟨some p26, .faddr 1 (.t p6), none, 0⟩, ⟨some p27, .load1 (.t p26), none, 2⟩, ⟨some p28, .mov (.t p4), none, 0⟩, ⟨none, .mapup (.t p25) (.t p27) (.t p28), none, 15⟩] false)
 (.seq (.region [⟨some p29, .mov (.t p4), none, 0⟩, ⟨some p7, .mov (.t p29), none, 1⟩] false)
 (.region [⟨some p30, .mov (.t p4), none, 0⟩, ⟨some p31, .bin .add (.t p30) (.c (.int .i64 (.ofNat 1))), none, 1⟩, ⟨some p4, .mov (.t p31), none, 3⟩] false))) (.seq (.region [⟨some p33, .bin .eql (.t p18) (.c (.int .u8 (.ofNat 13))), none, 0⟩, ⟨some p32, .mov (.t p33), none, 1⟩] false)
 (.cond (.t p32) .skip (.region [⟨some p19, .mov (.t p3), none, 0⟩, ⟨some p20, .faddr 1 (.t p6), none, 0⟩, ⟨some p21, .load1 (.t p20), none, 2⟩, ⟨some p22, .lookup (.int .i64 (.ofNat 0)) false (.t p19) (.t p21), none, 7⟩, ⟨some p7, .mov (.t p22), none, 15⟩] false)))))))
 (.seq (.region [⟨some p34, .mov (.t p0), none, 0⟩, ⟨some p35, .mov (.t p5), none, 0⟩, ⟨some p36, .mov (.t p7), none, 0⟩, ⟨some p37, .call (.t p34) [(.t p35), (.t p36)], none, 7⟩, ⟨some p38, .un .not (.t p37), none, 15⟩] false)
 (.cond (.t p38) .ret .skip))))))
 (.region [⟨some p39, .bin .add (.t p12) (.c (.int .i64 (.ofNat 1))), none, 0⟩, ⟨some p12, .mov (.t p39), none, 1⟩] false))))))))) }
theorem ok29 : cFn Tryd.prog 29 = some ef29 := by kernel_rfl
noncomputable def ft : Tri EFn := mkFT [ef9, ef10, ef14, ef15, ef16, ef21, ef24, ef29]
theorem ftok : FTok Tryd.prog ft := FTok.cons ok9 (FTok.cons ok10 (FTok.cons ok14 (FTok.cons ok15 (FTok.cons ok16 (FTok.cons ok21 (FTok.cons ok24 (FTok.cons ok29 (FTok.nil _))))))))
end Go.Proofs.YtjckgagkkknmnaaDoor.Rk
/-
  Reckoning: event.May by its contract.
-/
namespace Go.Proofs.YtjckgagkkknmnaaDoor.Rk
set_option linter.unusedVariables false
open Go Go.RowKit
set_option maxRecDepth 100000
set_option maxHeartbeats 4000000

def evOkB (e : Ev) : Bool := decide (0 ≤ e.kind ∧ e.kind ≤ 255) && decide (-9223372036854775808 ≤ e.th ∧ e.th ≤ 9223372036854775807) && decide (-9223372036854775808 ≤ e.tx ∧ e.tx ≤ 9223372036854775807) && decide (-9223372036854775808 ≤ e.at_ ∧ e.at_ ≤ 9223372036854775807) &&
  decide (-9223372036854775808 ≤ e.v ∧ e.v ≤ 9223372036854775807) && decide (-9223372036854775808 ≤ e.x ∧ e.x ≤ 9223372036854775807) && decide (0 ≤ e.why ∧ e.why ≤ 255)
theorem evOkB_spec {e : Ev} (h : evOkB e = true) : EvOk e := by
  simp only [evOkB, Bool.and_eq_true, decide_eq_true_eq] at h
  obtain ⟨⟨⟨⟨⟨⟨h1, h2⟩, h3⟩, h4⟩, h5⟩, h6⟩, h7⟩ := h
  exact ⟨h1, h2, h3, h4, h5, h6, h7⟩
end Go.Proofs.YtjckgagkkknmnaaDoor.Rk
/-
  Reckoning: shape.Check by its contract; the events are read off the memory.
-/
namespace Go.Proofs.YtjckgagkkknmnaaDoor.Rk
set_option linter.unusedVariables false
open Go Go.RowKit
set_option maxRecDepth 100000
set_option maxHeartbeats 4000000
set_option linter.unusedSimpArgs false
set_option linter.unusedVariables false

def evAV (e : Ev) : List AV := [.int .u8 e.kind, .int .i64 e.th, .int .i64 e.tx, .int .i64 e.at_, .int .i64 e.v, .int .i64 e.x, .int .u8 e.why]
/-- So many events, one behind the other. -/
noncomputable def evsOf {β : Type} : Nat → List AV → (List Ev → Option β) → Option β := Nat.rec (fun cs k => match cs with | [] => k [] | _ => none) (fun _ ih cs k => match cs with
  | .int .u8 a :: .int .i64 b :: .int .i64 c :: .int .i64 d :: .int .i64 e :: .int .i64 f :: .int .u8 g :: r => fI a fun a => fI b fun b => fI c fun c => fI d fun d => fI e fun e => fI f fun f => fI g fun g => ih r fun l => k (⟨a, b, c, d, e, f, g⟩ :: l)
  | _ => none)
theorem evsOf_spec {β : Type} : ∀ (n : Nat) (cs : List AV) (k : List Ev → Option β) (r : β), evsOf n cs k = some r → ∃ l : List Ev, l.length = n ∧ cs = l.flatMap evAV ∧ k l = some r
  | 0, cs, k, r, h => by
    have h' : (match (generalizing := false) cs with | [] => k [] | _ => none) = some r := h
    split at h'
    · exact ⟨[], rfl, rfl, h'⟩
    · cases h'
  | n + 1, cs, k, r, h => by
    have h' : (match (generalizing := false) cs with
      | .int .u8 a :: .int .i64 b :: .int .i64 c :: .int .i64 d :: .int .i64 e :: .int .i64 f :: .int .u8 g :: r => fI a fun a => fI b fun b => fI c fun c => fI d fun d => fI e fun e => fI f fun f => fI g fun g => evsOf n r fun l => k (⟨a, b, c, d, e, f, g⟩ :: l)
      | _ => none) = some r := h
    split at h'
    · simp only [fI_eq] at h'
      obtain ⟨l, h1, h2, h3⟩ := evsOf_spec n _ _ r h'
      refine ⟨_ :: l, by rw [List.length_cons, h1], ?_, h3⟩
      rw [h2]
      rfl
    · cases h'
theorem LR.evs {m : Tl} : ∀ (l : List Ev) (vs : List Value), LR m (l.flatMap evAV) vs → vs = l.flatMap evL
  | [], vs, h => h.inv_nil
  | e :: l, vs, h => by
    rw [List.flatMap_cons] at h
    have h0 : LR m (.int .u8 e.kind :: .int .i64 e.th :: .int .i64 e.tx :: .int .i64 e.at_ :: .int .i64 e.v :: .int .i64 e.x :: .int .u8 e.why :: l.flatMap evAV) vs := h
    obtain ⟨c1, r1, rfl, q1, h1⟩ := h0.inv_cons
    obtain ⟨c2, r2, rfl, q2, h2⟩ := h1.inv_cons
    obtain ⟨c3, r3, rfl, q3, h3⟩ := h2.inv_cons
    obtain ⟨c4, r4, rfl, q4, h4⟩ := h3.inv_cons
    obtain ⟨c5, r5, rfl, q5, h5⟩ := h4.inv_cons
    obtain ⟨c6, r6, rfl, q6, h6⟩ := h5.inv_cons
    obtain ⟨c7, r7, rfl, q7, h7⟩ := h6.inv_cons
    have := LR.evs l r7 h7
    subst this
    cases q1; cases q2; cases q3; cases q4; cases q5; cases q6; cases q7
    rfl
theorem evL_len (e : Ev) : (evL e).length = 7 := rfl
theorem evL_get : ∀ (l : List Ev) (k : Nat) (h : k < l.length) (j : Nat) (v : Value), (evL l[k])[j]? = some v → (l.flatMap evL)[k * 7 + j]? = some v
  | [], k, h, _, _, _ => by simp at h
  | e :: l, 0, h, j, v, hv => by
    have hj : j < (evL e).length := (List.getElem?_eq_some_iff.1 hv).1
    rw [List.flatMap_cons, Nat.zero_mul, Nat.zero_add, List.getElem?_append_left hj]
    exact hv
  | e :: l, k + 1, h, j, v, hv => by
    have hk : k < l.length := by simpa using h
    rw [List.flatMap_cons, List.getElem?_append_right (by rw [evL_len]; omega), evL_len, show (k + 1) * 7 + j - 7 = k * 7 + j by omega]
    exact evL_get l k hk j v (by simpa using hv)
theorem kinds_old {w0 W : World} (hold : ∀ (k : Nat) (ob : Obj), w0.heap[k]? = some ob → W.heap[k]? = some ob) (hK : KindsAt w0) : KindsAt W := by
  have hcell : ∀ (a : Addr) (u : Value), w0.cell? a = some u → W.cell? a = some u := fun a u hu => by
    unfold World.cell? at hu ⊢
    cases hx : w0.heap[a.block]? with
    | none => rw [hx] at hu; cases hu
    | some ob => rw [hold _ _ hx]; rw [hx] at hu; exact hu
  intro k fs hk
  obtain ⟨a, cap, h1, h2, h3⟩ := hK k fs hk
  refine ⟨a, cap, hcell _ _ h1, h2, fun hne => ?_⟩
  obtain ⟨b, o, h4, h5⟩ := h3 hne
  exact ⟨b, o, h4, fun i hi => hcell _ _ (h5 i hi)⟩
theorem tab_old {w0 W : World} (hold : ∀ (k : Nat) (ob : Obj), w0.heap[k]? = some ob → W.heap[k]? = some ob) (hT : TabOk w0) : TabOk W := by
  have hcell : ∀ (a : Addr) (u : Value), w0.cell? a = some u → W.cell? a = some u := fun a u hu => by
    unfold World.cell? at hu ⊢
    cases hx : w0.heap[a.block]? with
    | none => rw [hx] at hu; cases hu
    | some ob => rw [hold _ _ hx]; rw [hx] at hu; exact hu
  intro i hi
  exact hcell _ _ (hT i hi)
noncomputable def chkA (T V S : Int) (l : List Ev) (s : St) : Option (AV × St) := Bool.rec none (fI (checkT T V S l).1 fun a => fI (checkT T V S l).2 fun b => some (.tup [.int .i64 a, .int .i64 b], s)) (l.all evOkB)
noncomputable def chkM (T V S : Int) (b off n : Nat) (s : St) : Option (AV × St) := ob (cellsAt b s) fun r => match r with
  | (cs, _, s1) => ob (sub? cs off (n * 7)) fun cs => evsOf n cs fun l => chkA T V S l s1
noncomputable def checkO : OrcT := fun f args s => match args with
  | [.agg [.int .i64 T, .int .i64 V, .int .i64 S, x]] => Bool.rec none (match x with
    | .nils => chkA T V S [] s
    | .sl b off n _ => chkM T V S b off n s
    | .slu b off n _ => chkM T V S b off n s
    | _ => none) (Nat.beq f 12)
  | _ => none
theorem chkA_spec {T V S : Int} {l : List Ev} {s : St} {v : AV} {s' : St} (h : chkA T V S l s = some (v, s')) : (∀ e ∈ l, EvOk e) ∧ v = .tup [.int .i64 (checkT T V S l).1, .int .i64 (checkT T V S l).2] ∧ s' = s := by
  obtain ⟨h1, h2⟩ := rec_some h
  simp only [fI_eq] at h2
  cases h2
  exact ⟨fun e he => evOkB_spec (List.all_eq_true.1 h1 e he), rfl, rfl⟩
theorem checkO_ok {w0 : World} (hK : KindsAt w0) (hT : TabOk w0) : OrcOk w0 Tryd.prog checkO := by
  intro f args s v s' h
  unfold checkO at h
  split at h
  case h_2 => cases h
  rename_i T V S x
  obtain ⟨hf, h_⟩ := rec_some h; clear h; have h := h_; clear h_
  have hf := Nat.eq_of_beq_eq_true hf
  subst hf
  have hF : ∃ fn, Tryd.prog.funcs[12]? = some fn ∧ fn.body.isNone = false ∧ (fn.name == "runtime.NumGoroutine") = false := ⟨Tryd.f12, Tryd.func12, rfl, by decide +kernel⟩
  have args1 : ∀ {m : Tl} {vals : List Value}, LR m [.agg [.int .i64 T, .int .i64 V, .int .i64 S, x]] vals → ∃ z, vals = [.agg #[.int .i64 T, .int .i64 V, .int .i64 S, z]] ∧ VR m x z := by
    intro m vals hl
    obtain ⟨a, l1, rfl, ha, hl1⟩ := hl.inv_cons
    have := hl1.inv_nil
    subst this
    cases ha with
    | agg hal hav =>
      rename_i cs
      have hcs : LR m [.int .i64 T, .int .i64 V, .int .i64 S, x] cs := ⟨hal, hav⟩
      obtain ⟨c1, r1, rfl, q1, hcs1⟩ := hcs.inv_cons
      obtain ⟨c2, r2, rfl, q2, hcs2⟩ := hcs1.inv_cons
      obtain ⟨c3, r3, rfl, q3, hcs3⟩ := hcs2.inv_cons
      obtain ⟨c4, r4, rfl, q4, hcs4⟩ := hcs3.inv_cons
      have := hcs4.inv_nil
      subst this
      cases q1; cases q2; cases q3
      exact ⟨c4, rfl, q4⟩
  have fin : ∀ {m : Tl} (p q : Int), VR m (.tup [.int .i64 p, .int .i64 q]) (.tuple #[.int .i64 p, .int .i64 q]) := fun p q => .tup rfl (fun i a v h1 h2 => (LR.cons (.int _ _) (LR.cons (.int _ _) (LR.nil _))).2 i a v h1 h2)
  have mem : ∀ (b off n : Nat), (∃ cap, x = .sl b off n cap) ∨ (∃ k, x = .slu b off n k) → chkM T V S b off n s = some (v, s') → (∃ fn, Tryd.prog.funcs[12]? = some fn ∧ fn.body.isNone = false ∧ (fn.name == "runtime.NumGoroutine") = false) ∧
      ∃ T' Wr, Seg s s' T' Wr ∧ ∀ (m : Tl) (H : Hp) (W : World) (vals : List Value) (R : Ending → World → Prop), Good w0 Tryd.prog Tryd.prog.globals.size m H W → Agree H s T' → Fresh m s s' → LR m [.agg [.int .i64 T, .int .i64 V, .int .i64 S, x]] vals →
        (∀ m' v' W', Stp w0 Tryd.prog Tryd.prog.globals.size s s' Wr m m' H W W' → VR m' v v' → R (.returned v') W') → CallsIn Fence.wide 0 Tryd.prog 12 ⟨vals⟩ W R := by
    intro b off n hx h
    obtain ⟨⟨cs, ex, s1⟩, hcells, h_⟩ := ob_some h; clear h; have h := h_; clear h_
    obtain ⟨ds, hds, h_⟩ := ob_some h; clear h; have h := h_; clear h_
    obtain ⟨hle, hdsE⟩ := sub_some hds
    obtain ⟨l, hll, hlE, h_⟩ := evsOf_spec _ _ _ _ h; clear h; have h := h_; clear h_
    obtain ⟨hok, rfl, rfl⟩ := chkA_spec h
    obtain ⟨hblt, _, g1, _, hn1⟩ := look_spec (cellsAt_look hcells)
    refine ⟨hF, [b], [], g1, fun m H W vals R hg ha hfr hl hR => ?_⟩
    obtain ⟨z, rfl, hz⟩ := args1 hl
    obtain ⟨b', cap, hm, rfl, hlc⟩ := hz.slice hx
    obtain ⟨b2, c, el, lo, hi', hb, hh, hlen2, _, hlcs, _, _, _⟩ := cells_obj hcells ha (by simp) hg
    rw [hm] at hb; cases hb
    have hlv := (hlcs.drop off).take (n * 7)
    rw [← hdsE, hlE] at hlv
    have hvs := LR.evs l _ hlv
    have hE : EvsAt W (some ⟨b', off, none⟩) l := ⟨hok, fun _ => ⟨b', off, rfl, fun k hk j u hu => by
      have h1 := evL_get l k hk j u hu
      rw [← hvs, List.getElem?_take] at h1
      split at h1
      · rw [List.getElem?_drop, List.getElem?_take] at h1
        split at h1
        · rw [cell_of hh, Nat.add_assoc]
          rw [Array.getElem?_toList] at h1
          exact h1
        · cases h1
      · cases h1⟩⟩
    have hC := check_all T V S (some ⟨b', off, none⟩) l cap W hE (kinds_old hg.old hK) (tab_old hg.old hT)
    rw [hll] at hC
    refine (callsIn_wide.2 hC).mono fun e W' ⟨he, hb⟩ => ?_
    subst he
    exact hR m _ W' (by simpa using Stp.trans g1 (Seg.refl _) (Stp.looked g1 hn1 hg) (Stp.below (by rw [updH_looked hn1]; exact hg) hb)) (fin _ _)
  split at h
  · obtain ⟨hok, rfl, rfl⟩ := chkA_spec h
    refine ⟨hF, [], [], Seg.refl _, fun m H W vals R hg ha hfr hl hR => ?_⟩
    obtain ⟨z, rfl, hz⟩ := args1 hl
    cases hz
    have hC := check_all T V S none [] 0 W ⟨hok, fun h => absurd rfl h⟩ (kinds_old hg.old hK) (tab_old hg.old hT)
    refine (callsIn_wide.2 hC).mono fun e W' ⟨he, hb⟩ => ?_
    subst he
    exact hR m _ W' (Stp.below hg hb) (fin _ _)
  · exact mem _ _ _ (.inl ⟨_, rfl⟩) h
  · exact mem _ _ _ (.inr ⟨_, rfl⟩) h
  · cases h
end Go.Proofs.YtjckgagkkknmnaaDoor.Rk
/-
  The examples of the statements on histories come to true: reckoned; shape.Check by its contract.
-/
namespace Go.Proofs.YtjckgagkkknmnaaDoor.Rk
set_option linter.unusedVariables false
open Go Go.RowKit
set_option maxRecDepth 100000
set_option maxHeartbeats 4000000
theorem works_true : comesTrue checkO ft 100000 9 [] (stT []) = true := by decide +kernel
theorem works_any (w : World) (hK : KindsAt w) (hT : TabOk w) : Calls Tryd.prog 9 #[] w fun e w' => e = .returned (.bool true) ∧ Below w.heap.size w w' :=
  reckon_true ftok (checkO_ok hK hT) works_true rfl (goodT (by decide +kernel) fun n cs h => by cases h) freshT (LR.nil _)
end Go.Proofs.YtjckgagkkknmnaaDoor.Rk
