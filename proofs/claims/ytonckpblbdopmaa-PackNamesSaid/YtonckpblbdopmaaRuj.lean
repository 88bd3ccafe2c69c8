/-
  Reckoning a program in the kernel: a region that draws its order, whole. Nothing of the program.
-/
import Derived.Test.YtonckpblbdopmaaRui
namespace Go.Proofs.Ytonckpblbdopmaa.Rk
set_option linter.unusedVariables false
open Go
set_option maxHeartbeats 2000000
set_option linter.unusedSimpArgs false

section
variable {w0 : World} {P : Program} {N : Nat} {ops : Array Oper} {anc : Array Nat} {ro : Option Nat}
/-- All that is known of the region, reckoned in its text's row; n: how many operations. -/
structure DReg (w0 : World) (P : Program) (N : Nat) (ops : Array Oper) (anc : Array Nat) (ro : Option Nat) (A : Nat → Tri AV) (S : Nat → St) (T Wr : Nat → List Nat) (V : Nat → AV) : Prop where
  f : ∀ k, k < ops.size → OpF w0 P N ops ro k (A k) (A (k + 1)) (S k) (S (k + 1)) (T k) (Wr k) (V k)
  clear : ∀ i k x, i < ops.size → k < ops.size → x ∈ T i → (x ∈ Wr k ∨ ((S k).nx ≤ x ∧ x < (S (k + 1)).nx)) → i = k ∨ (anc.getD i 0).testBit k = true ∨ (anc.getD k 0).testBit i = true
  ao : ancOk ops anc = true
  ap : apartOk ops anc = true
  bk : backs ops = true
variable {A : Nat → Tri AV} {S : Nat → St} {T Wr : Nat → List Nat} {V : Nat → AV}
def own (S : Nat → St) (Wr : Nat → List Nat) (k x : Nat) : Prop := x ∈ Wr k ∨ ((S k).nx ≤ x ∧ x < (S (k + 1)).nx)
def dstIs (ops : Array Oper) (k t : Nat) : Prop := (ops[k]?).bind (·.dst) = some t
noncomputable def HD (n : Nat) (S : Nat → St) (Wr : Nat → List Nat) (H : Hp) (D : Nat → Bool) : Hp := fun x => match lastK (fun k => D k = true ∧ own S Wr k x) n with
  | some k => (S (k + 1)).H x
  | none => H x
noncomputable def SD (ops : Array Oper) (A : Nat → Tri AV) (D : Nat → Bool) (t : Nat) : Option AV := match lastK (fun k => D k = true ∧ dstIs ops k t) ops.size with
  | some k => (A (k + 1)).get (pt t)
  | none => (A 0).get (pt t)
theorem DReg.nx_mono (h : DReg w0 P N ops anc ro A S T Wr V) : ∀ (j i : Nat), i ≤ j → j ≤ ops.size → (S i).nx ≤ (S j).nx
  | 0, i, hi, _ => by have : i = 0 := by omega
                      subst this; exact Nat.le_refl _
  | j + 1, i, hi, hj => by
    by_cases e : i = j + 1
    · rw [e]; exact Nat.le_refl _
    · exact Nat.le_trans (h.nx_mono j i (by omega) (by omega)) (h.f j (by omega)).nx
/-- What lies in memory ahead of operation i. -/
theorem DReg.canonH (h : DReg w0 P N ops anc ro A S T Wr V) : ∀ (i : Nat), i ≤ ops.size → ∀ x, x < (S i).nx → (S i).H x = match lastK (fun k => own S Wr k x) i with
    | some k => (S (k + 1)).H x
    | none => (S 0).H x
  | 0, _, x, _ => rfl
  | i + 1, hi, x, hx => by
    simp only [lastK]
    by_cases ho : own S Wr i x
    · rw [if_pos ho]
    · rw [if_neg ho]
      unfold own at ho
      rw [not_or] at ho
      have hx' : x < (S i).nx := by
        rcases Nat.lt_or_ge x (S i).nx with h | h
        · exact h
        · exact absurd ⟨h, hx⟩ ho.2
      rw [(h.f i (by omega)).same x ho.1 hx']
      exact h.canonH i (by omega) x hx'
theorem DReg.none_lt (h : DReg w0 P N ops anc ro A S T Wr V) : ∀ (i : Nat), i ≤ ops.size → ∀ x, x < (S i).nx → lastK (fun k => own S Wr k x) i = none → x < (S 0).nx
  | 0, _, x, hx, _ => hx
  | i + 1, hi, x, hx, hl => by
    simp only [lastK] at hl
    split at hl
    · cases hl
    · rename_i ho
      unfold own at ho
      rw [not_or] at ho
      refine h.none_lt i (by omega) x ?_ hl
      rcases Nat.lt_or_ge x (S i).nx with h | h
      · exact h
      · exact absurd ⟨h, hx⟩ ho.2
theorem DReg.canonA (h : DReg w0 P N ops anc ro A S T Wr V) : ∀ (i : Nat), i ≤ ops.size → ∀ t, (A i).get (pt t) = match lastK (fun k => dstIs ops k t) i with
    | some k => (A (k + 1)).get (pt t)
    | none => (A 0).get (pt t)
  | 0, _, t => rfl
  | i + 1, hi, t => by
    simp only [lastK]
    obtain ⟨o, ho, _, hget, _⟩ := (h.f i (by omega)).op
    by_cases hd : dstIs ops i t
    · rw [if_pos hd]
    · rw [if_neg hd, hget t, if_neg]
      · exact h.canonA i (by omega) t
      · intro e
        exact hd (by unfold dstIs; rw [ho]; exact e)
/-- Down-closed: with an operation all that are told to come ahead of it are done. -/
def Down (n : Nat) (anc : Array Nat) (D : Nat → Bool) : Prop := ∀ k j, k < n → D k = true → (anc.getD k 0).testBit j = true → D j = true
/-- Which of two that are told to be ordered is done. -/
theorem DReg.order (h : DReg w0 P N ops anc ro A S T Wr V) {D : Nat → Bool} {i k : Nat} (hi : i < ops.size) (hk : k < ops.size) (hD : Down ops.size anc D) (hDi : D i = false) (hanc : ∀ j, (anc.getD i 0).testBit j = true → D j = true)
    (ho : i = k ∨ (anc.getD i 0).testBit k = true ∨ (anc.getD k 0).testBit i = true) : (k < i ∧ D k = true) ∨ (i ≤ k ∧ D k = false) := by
  rcases ho with rfl | ho | ho
  · exact .inr ⟨Nat.le_refl _, hDi⟩
  · exact .inl ⟨anc_lt h.ao hi ho, hanc k ho⟩
  · refine .inr ⟨Nat.le_of_lt (anc_lt h.ao hk ho), ?_⟩
    cases hk' : D k with
    | false => rfl
    | true => rw [hD k i hk hk' ho] at hDi; cases hDi
theorem DReg.lastW (h : DReg w0 P N ops anc ro A S T Wr V) {D : Nat → Bool} {i : Nat} (hi : i < ops.size) {p : Nat → Prop} (hp : ∀ k, k < ops.size → p k → (k < i ∧ D k = true) ∨ (i ≤ k ∧ D k = false)) : lastK (fun k => D k = true ∧ p k) ops.size = lastK p i := by
  rw [lastK_cut i ops.size (by omega) (fun k h1 h2 hq => by
    rcases hp k h2 hq.2 with h3 | h3
    · omega
    · rw [h3.2] at hq; cases hq.1)]
  refine lastK_congr i (fun k hk => ⟨fun hq => hq.2, fun hq => ⟨?_, hq⟩⟩)
  rcases hp k (by omega) hq with h3 | h3
  · exact h3.2
  · omega
theorem DReg.agree (h : DReg w0 P N ops anc ro A S T Wr V) {D : Nat → Bool} {i : Nat} {H : Hp} (hi : i < ops.size) (hD : Down ops.size anc D) (hDi : D i = false) (hanc : ∀ j, (anc.getD i 0).testBit j = true → D j = true)
    (hH : ∀ k, k < ops.size → ∀ x ∈ T k, x < (S 0).nx → H x = (S 0).H x) : Agree (HD ops.size S Wr H D) (S i) (T i) := by
  intro x hx hlt
  unfold HD
  rw [h.lastW hi (p := fun k => own S Wr k x) (fun k hk ho => h.order hi hk hD hDi hanc (h.clear i k x hi hk hx ho)), h.canonH i (by omega) x hlt]
  cases hl : lastK (fun k => own S Wr k x) i with
  | some k => rfl
  | none => exact hH i hi x hx (h.none_lt i (by omega) x hlt hl)
theorem DReg.slots (h : DReg w0 P N ops anc ro A S T Wr V) {D : Nat → Bool} {i : Nat} {o : Oper} (ho : ops[i]? = some o) (hD : Down ops.size anc D) (hDi : D i = false) (hanc : ∀ j, (anc.getD i 0).testBit j = true → D j = true) {t : Nat} (ht : t ∈ Proofs.Ytonckpblbdopmaa.Rk.slots ops o) : SD ops A D t = (A i).get (pt t) := by
  obtain ⟨hi, _⟩ := Array.getElem?_eq_some_iff.1 ho
  unfold SD
  rw [h.lastW hi (p := fun k => dstIs ops k t) (fun k hk hd => by
    obtain ⟨q, hq⟩ : ∃ q, ops[k]? = some q := ⟨_, Array.getElem?_eq_getElem hk⟩
    have hd' : q.dst = some t := by unfold dstIs at hd; rw [hq] at hd; exact hd
    refine h.order hi hk hD hDi hanc ?_
    rcases apart_spec h.ap hq hd' ho ht with e | e | e
    · exact .inl e.symm
    · exact .inr (.inr e)
    · exact .inr (.inl e)), h.canonA i (by omega) t]
theorem DReg.after (h : DReg w0 P N ops anc ro A S T Wr V) {D : Nat → Bool} {i : Nat} {H : Hp} (hi : i < ops.size) (hD : Down ops.size anc D) (hDi : D i = false) (hanc : ∀ j, (anc.getD i 0).testBit j = true → D j = true) :
    HD ops.size S Wr H (fun k => if k = i then true else D k) = updH (HD ops.size S Wr H D) (S i) (S (i + 1)) (Wr i) := by
  funext x
  unfold updH
  by_cases ho : own S Wr i x
  · have ho' : x ∈ Wr i ∨ ((S i).nx ≤ x ∧ x < (S (i + 1)).nx) := ho
    rw [if_pos ho']
    unfold HD
    rw [lastK_at hi ⟨if_pos rfl, ho⟩ (fun k hik hk hq => ?_)]
    have hDk : D k = true := by have := hq.1; dsimp only at this; rw [if_neg (by omega)] at this; exact this
    have hord : i = k ∨ (anc.getD i 0).testBit k = true ∨ (anc.getD k 0).testBit i = true := by
      rcases ho with hw | hw
      · exact h.clear i k x hi hk ((h.f i hi).sub x hw).1 hq.2
      · rcases hq.2 with hw2 | hw2
        · rcases h.clear k i x hk hi ((h.f k hk).sub x hw2).1 (.inr hw) with e | e | e
          · exact .inl e.symm
          · exact .inr (.inr e)
          · exact .inr (.inl e)
        · have := h.nx_mono k (i + 1) (by omega) (by omega)
          omega
    rcases h.order hi hk hD hDi hanc hord with e | e
    · omega
    · rw [e.2] at hDk; cases hDk
  · have ho' : ¬ (x ∈ Wr i ∨ ((S i).nx ≤ x ∧ x < (S (i + 1)).nx)) := ho
    rw [if_neg ho']
    unfold HD
    have : lastK (fun k => (if k = i then true else D k) = true ∧ own S Wr k x) ops.size = lastK (fun k => D k = true ∧ own S Wr k x) ops.size := by
      refine lastK_congr _ (fun k _ => ?_)
      by_cases hk : k = i
      · subst hk
        simp [ho]
      · simp [hk]
    rw [this]
theorem DReg.slotAfter (h : DReg w0 P N ops anc ro A S T Wr V) {D : Nat → Bool} {i : Nat} {o : Oper} (ho : ops[i]? = some o) (hD : Down ops.size anc D) (hDi : D i = false) (hanc : ∀ j, (anc.getD i 0).testBit j = true → D j = true) (t : Nat) :
    SD ops A (fun k => if k = i then true else D k) t = if o.dst = some t then some (V i) else SD ops A D t := by
  obtain ⟨hi, _⟩ := Array.getElem?_eq_some_iff.1 ho
  obtain ⟨o', ho', _, hget, _⟩ := (h.f i hi).op
  rw [ho] at ho'
  cases ho'
  by_cases hd : o.dst = some t
  · rw [if_pos hd]
    unfold SD
    rw [lastK_at hi ⟨if_pos rfl, by unfold dstIs; rw [ho]; exact hd⟩ (fun k hik hk hq => ?_)]
    · show (A (i + 1)).get (pt t) = _
      rw [hget, if_pos hd]
    · have hDk : D k = true := by have := hq.1; dsimp only at this; rw [if_neg (by omega)] at this; exact this
      obtain ⟨q, hq'⟩ : ∃ q, ops[k]? = some q := ⟨_, Array.getElem?_eq_getElem hk⟩
      have hd' : q.dst = some t := by have := hq.2; unfold dstIs at this; rw [hq'] at this; exact this
      have hord : i = k ∨ (anc.getD i 0).testBit k = true ∨ (anc.getD k 0).testBit i = true := apart_spec h.ap ho hd hq' (by unfold Proofs.Ytonckpblbdopmaa.Rk.slots; simp [hd'])
      rcases h.order hi hk hD hDi hanc hord with e | e
      · omega
      · rw [e.2] at hDk; cases hDk
  · rw [if_neg hd]
    unfold SD
    have : lastK (fun k => (if k = i then true else D k) = true ∧ dstIs ops k t) ops.size = lastK (fun k => D k = true ∧ dstIs ops k t) ops.size := by
      refine lastK_congr _ (fun k _ => ?_)
      by_cases hk : k = i
      · subst hk
        have : ¬ dstIs ops k t := by unfold dstIs; rw [ho]; exact hd
        simp [this]
      · simp [hk]
    rw [this]
/-- What holds between two operations, those in D being done. -/
structure DInv (w0 : World) (P : Program) (N : Nat) (ops : Array Oper) (anc : Array Nat) (A : Nat → Tri AV) (S : Nat → St) (Wr : Nat → List Nat) (H : Hp) (m0 : Tl) (W0 : World) (act0 : Act) (D : Nat → Bool) (m : Tl) (act : Act) (W : World) : Prop where
  down : Down ops.size anc D
  ext : MExt m0 m
  out : ∀ x, ¬ ((S 0).nx ≤ x ∧ x < (S ops.size).nx) → m x = m0 x
  fresh : ∀ k, k < ops.size → D k = false → ∀ x, (S k).nx ≤ x → x < (S (k + 1)).nx → m x = none
  good : Good w0 P P.globals.size m (HD ops.size S Wr H D) W
  size : N ≤ act.tmps.size
  slot : ∀ t v, SD ops A D t = some v → ∃ u, act.tmps[t]? = some u ∧ VR m v u
  defers : act.defers = act0.defers
  frame : ∀ (b : Nat) (ob : Obj), W0.heap[b]? = some ob → (∀ k, k < ops.size → D k = true → ∀ x ∈ Wr k, x < (S 0).nx → m0 x ≠ some b) → W.heap[b]? = some ob
  new : ∀ x b, (S 0).nx ≤ x → x < (S ops.size).nx → m x = some b → W0.heap[b]? = none ∨ ∃ k, k < ops.size ∧ D k = true ∧ ∃ y ∈ Wr k, y < (S 0).nx ∧ m0 y = some b
  rest : SameOut W0 W
theorem DReg.step (h : DReg w0 P N ops anc ro A S T Wr V) {H : Hp} {m0 : Tl} {W0 : World} {act0 : Act} {Q : Exit → Act → World → Prop} (hH : ∀ k, k < ops.size → ∀ x ∈ T k, x < (S 0).nx → H x = (S 0).H x) (D : Nat → Bool) (i : Nat) (o : Oper) (act : Act) (W : World) (ho : ops[i]? = some o) (hDi : D i = false)
    (hdep : ∀ e ∈ o.after.toList, Region.binds .any e = true → D e.on = true) (hI : ∃ m, DInv w0 P N ops anc A S Wr H m0 W0 act0 D m act W) :
    wpOpIn (wf ro) 0 P ops Q i (fun act' W' => ∃ m, DInv w0 P N ops anc A S Wr H m0 W0 act0 (fun k => if k = i then true else D k) m act' W') act W := by
  obtain ⟨m, I⟩ := hI
  obtain ⟨hi, _⟩ := Array.getElem?_eq_some_iff.1 ho
  have hanc : ∀ j, (anc.getD i 0).testBit j = true → D j = true := by
    intro j hj
    obtain ⟨e, he, hb, h1 | h1⟩ := anc_dep h.ao ho hj
    · rw [← h1]; exact hdep e he hb
    · have hDe := hdep e he hb
      have hbk := List.all_eq_true.1 h.bk i (List.mem_range.2 hi)
      rw [ho] at hbk
      have hbk := List.all_eq_true.1 hbk e he
      rw [hb] at hbk
      simp only [Bool.not_true, Bool.false_or, decide_eq_true_eq] at hbk
      exact I.down e.on j (by omega) hDe h1
  obtain ⟨o', ho', hdN, hget, hop⟩ := (h.f i hi).op
  rw [ho] at ho'
  cases ho'
  have h0n : (S 0).nx ≤ (S i).nx := h.nx_mono i 0 (by omega) (by omega)
  have hii := (h.f i hi).nx
  have hin : (S (i + 1)).nx ≤ (S ops.size).nx := h.nx_mono ops.size (i + 1) (by omega) (Nat.le_refl _)
  refine hop m (HD ops.size S Wr H D) W act _ Q I.good (h.agree hi I.down hDi hanc hH) (I.fresh i hi hDi) (fun t ht v hv => ?_) (fun m' v' W' hst hv' => ⟨m', ?_⟩)
  · refine I.slot t v ?_
    rw [h.slots ho I.down hDi hanc (by
      rcases List.mem_append.1 ht with h1 | h1
      · exact List.mem_append.2 (.inl (List.mem_append.2 (.inr h1)))
      · exact List.mem_append.2 (.inr h1))]
    exact hv
  · constructor
    case down =>
      intro k j hk hDk hb
      by_cases hki : k = i
      · subst hki
        by_cases hji : j = k
        · simp [hji]
        · simp only [if_neg hji]; exact hanc j hb
      · simp only [if_neg hki] at hDk
        by_cases hji : j = i
        · simp [hji]
        · simp only [if_neg hji]; exact I.down k j hk hDk hb
    case ext => exact I.ext.trans hst.ext
    case rest => exact I.rest.trans hst.rest
    case out =>
      intro x hx
      rw [hst.out x (by omega), I.out x hx]
    case fresh =>
      intro k hk hDk x h1 h2
      by_cases hki : k = i
      · subst hki; simp at hDk
      · simp only [if_neg hki] at hDk
        have hdis : ¬ ((S i).nx ≤ x ∧ x < (S (i + 1)).nx) := by
          rcases Nat.lt_or_ge k i with hlt | hge
          · have := h.nx_mono i (k + 1) (by omega) (by omega)
            omega
          · have := h.nx_mono k (i + 1) (by omega) (by omega)
            omega
        rw [hst.out x hdis]
        exact I.fresh k hk hDk x h1 h2
    case good => rw [h.after hi I.down hDi hanc]; exact hst.good
    case size =>
      cases hd : o.dst with
      | none => exact I.size
      | some d => simp [Act.put]; exact I.size
    case slot =>
      intro t v hv
      rw [h.slotAfter ho I.down hDi hanc t] at hv
      by_cases hd : o.dst = some t
      · rw [if_pos hd] at hv
        cases hv
        have := hdN t hd
        exact ⟨v', by rw [hd]; simp [Act.put, Array.getElem?_setIfInBounds, Nat.lt_of_lt_of_le this I.size], hv'⟩
      · rw [if_neg hd] at hv
        obtain ⟨u, hu, hvu⟩ := I.slot t v hv
        refine ⟨u, ?_, hvu.mono hst.ext⟩
        cases hd' : o.dst with
        | none => exact hu
        | some d =>
          have : d ≠ t := fun e => hd (by rw [hd', e])
          simp [Act.put, Array.getElem?_setIfInBounds, this, hu]
    case defers => rw [← I.defers]; cases o.dst <;> rfl
    case frame =>
      intro b ob hb hne
      have hne' : ∀ k, k < ops.size → D k = true → ∀ x ∈ Wr k, x < (S 0).nx → m0 x ≠ some b := fun k hk hDk x hx hlt => hne k hk (by by_cases hki : k = i <;> simp [hki, hDk]) x hx hlt
      have hbW := I.frame b ob hb hne'
      refine hst.frame b ob hbW (fun x hx hlt e => ?_)
      rcases Nat.lt_or_ge x (S 0).nx with hx0 | hx0
      · rw [I.out x (by omega)] at e
        exact hne i hi (by simp) x hx hx0 e
      · rcases I.new x b hx0 (by omega) e with h1 | ⟨k, hk, hDk, y, hy, hylt, hyb⟩
        · rw [hb] at h1; cases h1
        · exact hne' k hk hDk y hy hylt hyb
    case new =>
      intro x b h1 h2 hxb
      have hup : (∃ k, k < ops.size ∧ D k = true ∧ ∃ y ∈ Wr k, y < (S 0).nx ∧ m0 y = some b) → ∃ k, k < ops.size ∧ (if k = i then true else D k) = true ∧ ∃ y ∈ Wr k, y < (S 0).nx ∧ m0 y = some b := by
        rintro ⟨k, hk, hDk, hy⟩
        exact ⟨k, hk, by by_cases hki : k = i <;> simp [hki, hDk], hy⟩
      by_cases hxi : (S i).nx ≤ x ∧ x < (S (i + 1)).nx
      · rcases hst.new x b hxi.1 hxi.2 hxb with h3 | ⟨y, hy, hylt, hyb⟩
        · cases hb0 : W0.heap[b]? with
          | none => exact .inl rfl
          | some ob =>
            right
            refine hup (Classical.byContradiction fun hno => ?_)
            have := I.frame b ob hb0 (fun k hk hDk y hy hylt e => hno ⟨k, hk, hDk, y, hy, hylt, e⟩)
            rw [h3] at this; cases this
        · rcases Nat.lt_or_ge y (S 0).nx with hy0 | hy0
          · rw [I.out y (by omega)] at hyb
            exact .inr ⟨i, hi, by simp, y, hy, hy0, hyb⟩
          · rcases I.new y b hy0 (by omega) hyb with h3 | h3
            · exact .inl h3
            · exact .inr (hup h3)
      · rw [hst.out x hxi] at hxb
        rcases I.new x b h1 h2 hxb with h3 | h3
        · exact .inl h3
        · exact .inr (hup h3)
/-- A region that draws its order. -/
theorem regD_ok {cl yl : Nat → List AV → St → Option (AV × St)} {es : List EOper} {a a' : Tri AV} {s s' : St} {id : Nat} (hcl : ClOk w0 P cl) (hyl : YlOk w0 P yl) (hmix : P.follows .mixedOrders = true) (hback : backs ops = true) (hapart : apartOk ops anc = true) (hanc : ancOk ops anc = true)
    (hc : cOpers P N ops anc ops.toList 0 = some es) (h : evRegD cl yl es a s = some (a', s')) :
    ∃ T Wr, Seg s s' T Wr ∧ ∀ (m : Tl) (H : Hp) (W : World) (act : Act) (Q : Exit → Act → World → Prop), Good w0 P P.globals.size m H W → Agree H s T → Fresh m s s' → AT N m a act.tmps →
      (∀ m' act' W', Stp w0 P P.globals.size s s' Wr m m' H W W' → AT N m' a' act'.tmps → act'.defers = act.defers → Q .normal act' W') → (Code.region id ops true).wpIn (wf ro) 0 P Q act W := by
  obtain ⟨⟨rs, a1, s1⟩, hrun, h_⟩ := ob_some h; clear h; have h := h_; clear h_
  obtain ⟨hclear, h_⟩ := rec_some h; clear h; have h := h_; clear h_
  cases h
  obtain ⟨A, S, T, Wr, V, e1, e2, e3, e4, e5, e6, _, ⟨TT, e8, e8'⟩, ⟨WW, e9, e9'⟩⟩ := opsD_facts (ro := ro) hcl hyl ops.toList 0 es [] rs a a' s s' (fun k => by simp) hc hrun
  simp only [Array.length_toList, Nat.zero_add] at e3 e4 e5 e6 e8' e9'
  have hmono : ∀ (d i : Nat), i + d ≤ ops.size → (S i).nx ≤ (S (i + d)).nx := by
    intro d
    induction d with
    | zero => intro i _; exact Nat.le_refl _
    | succ d ih =>
      intro i h1
      exact Nat.le_trans (ih i (by omega)) (e5 (i + d) (Nat.zero_le _) (by omega)).nx
  have hreg : DReg w0 P N ops anc ro A S T Wr V := ⟨fun k hk => e5 k (Nat.zero_le _) hk, fun i k x hi hk hx ho => clearT_spec hclear (e6 i (Nat.zero_le _) hi) (e6 k (Nat.zero_le _) hk) (fun n hn => ((e5 k (Nat.zero_le _) hk).sub n hn).1)
    (fun hne => by
      rcases Nat.lt_or_gt_of_ne (show i ≠ k from hne) with h1 | h1
      · have := hmono (k - (i + 1)) (i + 1) (by omega)
        rw [show i + 1 + (k - (i + 1)) = k by omega] at this
        exact .inl this
      · have := hmono (i - (k + 1)) (k + 1) (by omega)
        rw [show k + 1 + (i - (k + 1)) = i by omega] at this
        exact .inr this) hx ho, hanc, hapart, hback⟩
  have hS0H : (S 0).H = s.H := by rw [e2]; rfl
  have hS0n : (S 0).nx = s.nx := by rw [e2]; rfl
  have hSnH : (S ops.size).H = s'.H := by rw [e4]; rfl
  have hSnn : (S ops.size).nx = s'.nx := by rw [e4]; rfl
  have hwin : ∀ x, x ∈ WW → x ∈ TT ∧ x < s'.nx := by
    intro x hx
    obtain ⟨k, _, hk, hxk⟩ := (e9' x).1 hx
    have h1 := (hreg.f k hk).sub x hxk
    refine ⟨(e8' x).2 ⟨k, Nat.zero_le _, hk, h1.1⟩, ?_⟩
    rw [← hSnn]
    exact Nat.lt_of_lt_of_le h1.2 (hreg.nx_mono ops.size (k + 1) (by omega) (Nat.le_refl _))
  have hown : ∀ x, (∃ k, k < ops.size ∧ own S Wr k x) ↔ (x ∈ WW ∨ (s.nx ≤ x ∧ x < s'.nx)) := by
    intro x
    constructor
    · rintro ⟨k, hk, h1 | h1⟩
      · exact .inl ((e9' x).2 ⟨k, Nat.zero_le _, hk, h1⟩)
      · refine .inr ⟨?_, ?_⟩
        · rw [← hS0n]; exact Nat.le_trans (hreg.nx_mono k 0 (by omega) (by omega)) h1.1
        · rw [← hSnn]; exact Nat.lt_of_lt_of_le h1.2 (hreg.nx_mono ops.size (k + 1) (by omega) (Nat.le_refl _))
    · rintro (h1 | h1)
      · obtain ⟨k, _, hk, hxk⟩ := (e9' x).1 h1
        exact ⟨k, hk, .inl hxk⟩
      · refine Classical.byContradiction fun hno => ?_
        have hnone : lastK (fun k => own S Wr k x) ops.size = none := by
          cases hl : lastK (fun k => own S Wr k x) ops.size with
          | none => rfl
          | some k => exact absurd ⟨k, lastK_some ops.size k hl⟩ hno
        have := hreg.none_lt ops.size (Nat.le_refl _) x (by rw [hSnn]; exact h1.2) hnone
        rw [hS0n] at this
        omega
  have hseg : Seg s s' TT WW := by
    refine ⟨e8, e9, hwin, ?_, fun x hx hlt => ?_⟩
    · rw [← hS0n, ← hSnn]; exact hreg.nx_mono ops.size 0 (Nat.zero_le _) (Nat.le_refl _)
    · have hlt' : x < (S ops.size).nx := by rw [hSnn]; have := hreg.nx_mono ops.size 0 (Nat.zero_le _) (Nat.le_refl _); rw [hS0n, hSnn] at this; omega
      have hnone : lastK (fun k => own S Wr k x) ops.size = none := by
        cases hl : lastK (fun k => own S Wr k x) ops.size with
        | none => rfl
        | some k =>
          exfalso
          rcases (hown x).1 ⟨k, lastK_some ops.size k hl⟩ with h1 | h1
          · exact hx h1
          · omega
      have := hreg.canonH ops.size (Nat.le_refl _) x hlt'
      rw [hnone] at this
      rw [← hSnH, this, hS0H]
  refine ⟨TT, WW, hseg, fun m H W act Q hg ha hf hat hQ => ?_⟩
  have hH : ∀ k, k < ops.size → ∀ x ∈ T k, x < (S 0).nx → H x = (S 0).H x := fun k hk x hx hlt => by
    rw [hS0H]
    exact ha x ((e8' x).2 ⟨k, Nat.zero_le _, hk, hx⟩) (by rw [← hS0n]; exact hlt)
  refine wpIn_region_any hmix ?_
  refine wpAnyIn_inv (fun D act' W' => ∃ m', DInv w0 P N ops anc A S Wr H m W act D m' act' W') hback (fun D i o act' W' ho hDi hdep hI => hreg.step hH D i o act' W' ho hDi hdep hI) (fun D act' W' hI hD => ?_) ops.size (Array.replicate ops.size false) act _ (by simp) (Nat.le_trans (List.length_filter_le _ _) (by simp)) ?_
  · obtain ⟨m', I⟩ := hI
    refine hQ m' act' W' ⟨I.ext, fun x hx => I.out x (by rw [hS0n, hSnn]; exact hx), fun x b h1 h2 hb => ?_, ?_, fun b ob hb hne => I.frame b ob hb (fun k hk _ x hx hlt => hne x ((e9' x).2 ⟨k, Nat.zero_le _, hk, hx⟩) (by rw [← hS0n]; exact hlt)), I.rest⟩ ⟨I.size, fun t v hv => ?_⟩ I.defers
    · rcases I.new x b (by rw [hS0n]; exact h1) (by rw [hSnn]; exact h2) hb with h3 | ⟨k, hk, _, y, hy, hylt, hyb⟩
      · exact .inl h3
      · exact .inr ⟨y, (e9' y).2 ⟨k, Nat.zero_le _, hk, hy⟩, by rw [← hS0n]; exact hylt, hyb⟩
    · have : HD ops.size S Wr H D = updH H s s' WW := by
        funext x
        unfold HD updH
        have hall : lastK (fun k => D k = true ∧ own S Wr k x) ops.size = lastK (fun k => own S Wr k x) ops.size := lastK_congr _ (fun k hk => ⟨fun h => h.2, fun h => ⟨hD k hk, h⟩⟩)
        rw [hall]
        by_cases hx : x ∈ WW ∨ (s.nx ≤ x ∧ x < s'.nx)
        · rw [if_pos hx]
          obtain ⟨k, hk, hok⟩ := (hown x).2 hx
          cases hl : lastK (fun k => own S Wr k x) ops.size with
          | none => exact absurd hok (lastK_none ops.size hl k hk)
          | some j =>
            have hlt' : x < (S ops.size).nx := by
              rw [hSnn]
              rcases hx with h1 | h1
              · exact (hwin x h1).2
              · exact h1.2
            have := hreg.canonH ops.size (Nat.le_refl _) x hlt'
            rw [hl] at this
            rw [← hSnH, this]
        · rw [if_neg hx]
          cases hl : lastK (fun k => own S Wr k x) ops.size with
          | none => rfl
          | some j => exact absurd ((hown x).1 ⟨j, lastK_some ops.size j hl⟩) hx
      rw [← this]; exact I.good
    · refine I.slot t v ?_
      have hall : lastK (fun k => D k = true ∧ dstIs ops k t) ops.size = lastK (fun k => dstIs ops k t) ops.size := lastK_congr _ (fun k hk => ⟨fun h => h.2, fun h => ⟨hD k hk, h⟩⟩)
      unfold SD
      rw [hall, ← hreg.canonA ops.size (Nat.le_refl _) t, e3]
      exact hv
  · have hfalse : ∀ k, (Array.replicate ops.size false).getD k false = false := fun k => by simp [Array.getD]
    refine ⟨m, ⟨(fun k j _ hDk _ => by simp only [hfalse] at hDk; cases hDk), MExt.refl m, fun _ _ => rfl, fun k hk _ x h1 h2 => ?_, ?_, hat.1, fun t v hv => ?_, rfl, fun b ob hb _ => hb, fun x b h1 h2 hb => ?_, ⟨rfl, rfl, rfl⟩⟩⟩
    · refine hf x ?_ ?_
      · rw [← hS0n]; exact Nat.le_trans (hreg.nx_mono k 0 (by omega) (by omega)) h1
      · rw [← hSnn]; exact Nat.lt_of_lt_of_le h2 (hreg.nx_mono ops.size (k + 1) (by omega) (Nat.le_refl _))
    · have : HD ops.size S Wr H (fun k => (Array.replicate ops.size false).getD k false) = H := by
        funext x
        unfold HD
        have hn : lastK (fun k => (Array.replicate ops.size false).getD k false = true ∧ own S Wr k x) ops.size = none := by
          cases hl : lastK (fun k => (Array.replicate ops.size false).getD k false = true ∧ own S Wr k x) ops.size with
          | none => rfl
          | some k => have := (lastK_some ops.size k hl).2.1; rw [hfalse] at this; cases this
        rw [hn]
      rw [this]
      exact hg.of_heap rfl
    · unfold SD at hv
      have hn : lastK (fun k => (Array.replicate ops.size false).getD k false = true ∧ dstIs ops k t) ops.size = none := by
        cases hl : lastK (fun k => (Array.replicate ops.size false).getD k false = true ∧ dstIs ops k t) ops.size with
        | none => rfl
        | some k => have := (lastK_some ops.size k hl).2.1; rw [hfalse] at this; cases this
      rw [hn, e1] at hv
      exact hat.2 t v hv
    · have := hf x (by rw [← hS0n]; exact h1) (by rw [← hSnn]; exact h2)
      rw [this] at hb; cases hb
end
end Go.Proofs.Ytonckpblbdopmaa.Rk
