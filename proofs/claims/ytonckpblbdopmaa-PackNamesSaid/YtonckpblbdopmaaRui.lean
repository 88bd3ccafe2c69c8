/-
  Reckoning a program in the kernel: what is reckoned of a region that draws its order holds in any order. Nothing of the program.
-/
import Derived.Test.YtonckpblbdopmaaRuh
namespace Go.Proofs.Ytonckpblbdopmaa.Rk
set_option linter.unusedVariables false
open Go
set_option maxHeartbeats 2000000
set_option linter.unusedSimpArgs false

/-- What an operation of such a region does, reckoned in its text's row. -/
structure OpF (w0 : World) (P : Program) (N : Nat) (ops : Array Oper) (ro : Option Nat) (k : Nat) (a a' : Tri AV) (s s' : St) (T Wr : List Nat) (v : AV) : Prop where
  sub : ∀ n ∈ Wr, n ∈ T ∧ n < s'.nx
  nx : s.nx ≤ s'.nx
  same : ∀ n, n ∉ Wr → n < s.nx → s'.H n = s.H n
  op : ∃ o, ops[k]? = some o ∧ (∀ d, o.dst = some d → d < N) ∧ (∀ t, a'.get (pt t) = if o.dst = some t then some v else a.get (pt t)) ∧
    ∀ (m : Tl) (H : Hp) (W : World) (act : Act) (K : Act → World → Prop) (Q : Exit → Act → World → Prop), Good w0 P P.globals.size m H W → Agree H s T → Fresh m s s' → RdAll m a act (opSlots o ++ gdSlots ops o) →
      (∀ m' v' W', Stp w0 P P.globals.size s s' Wr m m' H W W' → VR m' v v' → K (act.put o.dst v') W') → wpOpIn (wf ro) 0 P ops Q k K act W
section
variable {w0 : World} {P : Program} {N : Nat} {ops : Array Oper} {anc : Array Nat} {ro : Option Nat} {cl yl : Nat → List AV → St → Option (AV × St)}
theorem app_eq {α : Type} : ∀ (x y : List α), app x y = x ++ y
  | [], _ => rfl
  | a :: x, y => by show a :: app x y = _; rw [app_eq x y]; rfl
def ll (s : St) : St := ⟨s.h, s.nx, [], []⟩
theorem opsD_facts (hcl : ClOk w0 P cl) (hyl : YlOk w0 P yl) : ∀ (l : List Oper) (i : Nat) (es : List EOper) (rs rs' : List Rec) (a a' : Tri AV) (s s' : St), (∀ k, l[k]? = ops[i + k]?) → cOpers P N ops anc l i = some es → evOpsD cl yl es i rs a s = some (rs', a', s') →
    ∃ (A : Nat → Tri AV) (S : Nat → St) (T Wr : Nat → List Nat) (V : Nat → AV), A i = a ∧ S i = ll s ∧ A (i + l.length) = a' ∧ S (i + l.length) = ll s' ∧
      (∀ k, i ≤ k → k < i + l.length → OpF w0 P N ops ro k (A k) (A (k + 1)) (S k) (S (k + 1)) (T k) (Wr k) (V k)) ∧
      (∀ k, i ≤ k → k < i + l.length → (⟨k, anc.getD k 0, (S k).nx, (S (k + 1)).nx, T k, Wr k⟩ : Rec) ∈ rs') ∧ (∀ r ∈ rs, r ∈ rs') ∧
      (∃ TT, s'.lg = TT ++ s.lg ∧ ∀ x, x ∈ TT ↔ ∃ k, i ≤ k ∧ k < i + l.length ∧ x ∈ T k) ∧ (∃ WW, s'.wl = WW ++ s.wl ∧ ∀ x, x ∈ WW ↔ ∃ k, i ≤ k ∧ k < i + l.length ∧ x ∈ Wr k)
  | [], i, es, rs, rs', a, a', s, s', hl, hc, h => by
    cases hc
    cases h
    exact ⟨fun _ => a, fun _ => ll s, fun _ => [], fun _ => [], fun _ => .nilp, rfl, rfl, rfl, rfl, fun k h1 h2 => by simp at h2; omega, fun k h1 h2 => by simp at h2; omega, fun r hr => hr,
      ⟨[], rfl, fun x => ⟨(fun h => by cases h), fun ⟨k, h1, h2, _⟩ => by simp at h2; omega⟩⟩, ⟨[], rfl, fun x => ⟨(fun h => by cases h), fun ⟨k, h1, h2, _⟩ => by simp at h2; omega⟩⟩⟩
  | o :: l, i, es, rs, rs', a, a', s, s', hl, hc, h => by
    unfold cOpers at hc
    split at hc
    · rename_i e es' he hes
      cases hc
      obtain ⟨⟨a1, s1⟩, h1, h_⟩ := ob_some h; clear h; have h := h_; clear h_
      have hoi : ops[i]? = some o := by have := hl 0; simpa using this.symm
      obtain ⟨_, hanc, hdN, T1, W1, v, g1, hget, hop⟩ := oper_ok (ro := ro) hcl hyl he h1
      have hT1 : s1.lg = T1 := by have := g1.lg; simpa using this
      have hW1 : s1.wl = W1 := by have := g1.wl; simpa using this
      obtain ⟨A, S, T, Wr, V, e1, e2, e3, e4, e5, e6, e7, ⟨TT, e8, e8'⟩, ⟨WW, e9, e9'⟩⟩ := opsD_facts hcl hyl l (i + 1) es' _ rs' a1 a' _ s' (fun k => by have := hl (k + 1); simpa [Nat.add_assoc, Nat.add_comm 1] using this) hes h
      have hlen : i + 1 + l.length = i + (o :: l).length := by simp; omega
      rw [hlen] at e3 e4 e5 e6 e8' e9'
      have hS1 : S (i + 1) = ll s1 := e2
      refine ⟨fun k => if k = i then a else A k, fun k => if k = i then ll s else S k, fun k => if k = i then T1 else T k, fun k => if k = i then W1 else Wr k, fun k => if k = i then v else V k,
        if_pos rfl, if_pos rfl, ?_, ?_, fun k h2 h3 => ?_, fun k h2 h3 => ?_, fun r hr => e7 r (by simp [hr]), ⟨TT ++ T1, ?_, fun x => ?_⟩, ⟨WW ++ W1, ?_, fun x => ?_⟩⟩
      · show (if i + (o :: l).length = i then a else A (i + (o :: l).length)) = a'
        rw [if_neg (by simp)]; exact e3
      · show (if i + (o :: l).length = i then ll s else S (i + (o :: l).length)) = ll s'
        rw [if_neg (by simp)]; exact e4
      · by_cases hk : k = i
        · subst hk
          simp only [if_true]
          rw [if_neg (by omega), if_neg (by omega), e1, hS1]
          exact ⟨g1.sub, g1.nx, g1.same, o, hoi, hdN, hget, fun m H W act K Q hg ha hf hr hK => hop m H W act K Q k hoi hg ha hf hr (fun m' v' W' hst hv => hK m' v' W' ⟨hst.ext, hst.out, hst.new, hst.good, hst.frame, hst.rest⟩ hv)⟩
        · simp only [if_neg hk]
          rw [if_neg (by omega), if_neg (by omega)]
          exact e5 k (by omega) h3
      · by_cases hk : k = i
        · subst hk
          simp only [if_true]
          rw [if_neg (by omega), hS1]
          refine e7 _ ?_
          rw [← hT1, ← hW1, ← hanc]
          exact List.mem_cons_self ..
        · simp only [if_neg hk]
          rw [if_neg (by omega)]
          exact e6 k (by omega) h3
      · rw [e8]
        show TT ++ app s1.lg s.lg = _
        rw [app_eq, hT1, List.append_assoc]
      · rw [List.mem_append, e8']
        constructor
        · rintro (⟨k, h2, h3, h4⟩ | h4)
          · exact ⟨k, by omega, h3, by show x ∈ (if k = i then T1 else T k); rw [if_neg (by omega)]; exact h4⟩
          · exact ⟨i, Nat.le_refl _, by simp, by show x ∈ (if i = i then T1 else T i); rw [if_pos rfl]; exact h4⟩
        · rintro ⟨k, h2, h3, h4⟩
          by_cases hk : k = i
          · subst hk
            exact .inr (by simpa using h4)
          · exact .inl ⟨k, by omega, h3, by simpa [hk] using h4⟩
      · rw [e9]
        show WW ++ app s1.wl s.wl = _
        rw [app_eq, hW1, List.append_assoc]
      · rw [List.mem_append, e9']
        constructor
        · rintro (⟨k, h2, h3, h4⟩ | h4)
          · exact ⟨k, by omega, h3, by show x ∈ (if k = i then W1 else Wr k); rw [if_neg (by omega)]; exact h4⟩
          · exact ⟨i, Nat.le_refl _, by simp, by show x ∈ (if i = i then W1 else Wr i); rw [if_pos rfl]; exact h4⟩
        · rintro ⟨k, h2, h3, h4⟩
          by_cases hk : k = i
          · subst hk
            exact .inr (by simpa using h4)
          · exact .inl ⟨k, by omega, h3, by simpa [hk] using h4⟩
    · cases hc
theorem memN_iff {n : Nat} : ∀ {l : List Nat}, memN n l = true ↔ n ∈ l
  | [] => by simp [memN]
  | m :: l => by
    have : memN n (m :: l) = Bool.rec (memN n l) true (Nat.beq n m) := rfl
    rw [this]
    cases h : Nat.beq n m with
    | true => have := Nat.eq_of_beq_eq_true h; simp [this]
    | false => have := Nat.ne_of_beq_eq_false h; simp [memN_iff, this]
theorem clear1_spec {y : Rec} : ∀ {l : List Nat}, clear1 y l = true → ∀ n ∈ l, n ∉ y.W ∧ ¬ (y.from_ ≤ n ∧ n < y.to)
  | [], _, n, hn => by cases hn
  | k :: l, h, n, hn => by
    have h' : (Bool.rec (Bool.rec (clear1 y l) (Bool.rec (clear1 y l) false (Nat.ble (k + 1) y.to)) (Nat.ble y.from_ k)) false (memN k y.W) : Bool) = true := h
    cases hm : memN k y.W with
    | true => rw [hm] at h'; cases h'
    | false =>
      rw [hm] at h'
      have hnk : k ∉ y.W := fun e => by rw [memN_iff.2 e] at hm; cases hm
      have key : clear1 y l = true ∧ ¬ (y.from_ ≤ k ∧ k < y.to) := by
        cases h1 : Nat.ble y.from_ k with
        | false => rw [h1] at h'; exact ⟨h', fun e => by rw [Nat.ble_eq_true_of_le e.1] at h1; cases h1⟩
        | true =>
          rw [h1] at h'
          cases h2 : Nat.ble (k + 1) y.to with
          | false => rw [h2] at h'; exact ⟨h', fun e => by rw [Nat.ble_eq_true_of_le (show k + 1 ≤ y.to from e.2)] at h2; cases h2⟩
          | true => rw [h2] at h'; cases h'
      rcases List.mem_cons.1 hn with rfl | hn
      · exact ⟨hnk, key.2⟩
      · exact clear1_spec key.1 n hn
theorem isNil_spec {α : Type} {l : List α} (h : isNil l = true) : l = [] := by cases l with
  | nil => rfl
  | cons a l => cases h
theorem allR_spec {p : Rec → Bool} : ∀ {l : List Rec}, allR p l = true → ∀ r ∈ l, p r = true
  | [], _, r, hr => by cases hr
  | x :: l, h, r, hr => by
    have h' : (Bool.rec false (allR p l) (p x) : Bool) = true := h
    cases hp : p x with
    | false => rw [hp] at h'; cases h'
    | true =>
      rw [hp] at h'
      rcases List.mem_cons.1 hr with rfl | hr
      · exact hp
      · exact allR_spec h' r hr
theorem clear_spec {rs : List Rec} (h : clearAll rs = true) {x y : Rec} (hx : x ∈ rs) (hy : y ∈ rs) {n : Nat} (hn : n ∈ x.T) (ho : n ∈ y.W ∨ (y.from_ ≤ n ∧ n < y.to)) : x.i = y.i ∨ x.anc.testBit y.i = true ∨ y.anc.testBit x.i = true := by
  have h1 := allR_spec h x hx
  simp only [Bool.or_eq_true] at h1
  rcases h1 with h1 | h1
  · rw [isNil_spec h1] at hn; cases hn
  · have h2 := allR_spec h1 y hy
    unfold clearOf at h2
    simp only [Bool.or_eq_true, Bool.and_eq_true] at h2
    rcases h2 with (((h2 | h2) | h2) | h2) | h2
    · exact .inl (Nat.eq_of_beq_eq_true h2)
    · exact .inr (.inl h2)
    · exact .inr (.inr h2)
    · rw [isNil_spec h2.1] at ho
      have := Nat.eq_of_beq_eq_true h2.2
      rcases ho with ho | ho
      · cases ho
      · omega
    · have := clear1_spec h2 n hn
      rcases ho with ho | ho
      · exact absurd ho this.1
      · exact absurd ho this.2
theorem mem_trimL {f t n : Nat} : ∀ {l : List Nat}, n ∈ trimL f t l ↔ n ∈ l ∧ ¬ (f ≤ n ∧ n < t)
  | [] => by simp [trimL]
  | k :: l => by
    have h : trimL f t (k :: l) = Bool.rec (k :: trimL f t l) (Bool.rec (k :: trimL f t l) (trimL f t l) (Nat.ble (k + 1) t)) (Nat.ble f k) := rfl
    rw [h]
    cases h1 : Nat.ble f k with
    | false =>
      have h1' : ¬ f ≤ k := fun e => by rw [Nat.ble_eq_true_of_le e] at h1; cases h1
      show n ∈ k :: trimL f t l ↔ _
      rw [List.mem_cons, List.mem_cons, mem_trimL]
      constructor
      · rintro (rfl | ⟨h2, h3⟩)
        · exact ⟨.inl rfl, fun e => h1' e.1⟩
        · exact ⟨.inr h2, h3⟩
      · rintro ⟨rfl | h2, h3⟩
        · exact .inl rfl
        · exact .inr ⟨h2, h3⟩
    | true =>
      have h1' := Nat.le_of_ble_eq_true h1
      cases h2 : Nat.ble (k + 1) t with
      | false =>
        have h2' : ¬ k + 1 ≤ t := fun e => by rw [Nat.ble_eq_true_of_le e] at h2; cases h2
        show n ∈ k :: trimL f t l ↔ _
        rw [List.mem_cons, List.mem_cons, mem_trimL]
        constructor
        · rintro (rfl | ⟨h3, h4⟩)
          · exact ⟨.inl rfl, fun e => h2' e.2⟩
          · exact ⟨.inr h3, h4⟩
        · rintro ⟨rfl | h3, h4⟩
          · exact .inl rfl
          · exact .inr ⟨h3, h4⟩
      | true =>
        have h2' := Nat.le_of_ble_eq_true h2
        show n ∈ trimL f t l ↔ _
        rw [List.mem_cons, mem_trimL]
        constructor
        · rintro ⟨h3, h4⟩
          exact ⟨.inr h3, h4⟩
        · rintro ⟨rfl | h3, h4⟩
          · exact absurd ⟨h1', h2'⟩ h4
          · exact ⟨h3, h4⟩
theorem mem_trims {x : Rec} : ∀ {rs : List Rec}, x ∈ rs → trim x ∈ trims rs
  | y :: rs, h => by
    show trim x ∈ trim y :: trims rs
    rcases List.mem_cons.1 h with rfl | h
    · exact List.mem_cons_self ..
    · exact List.mem_cons_of_mem _ (mem_trims h)
/-- An operation's own laying need not be looked at, where the layings lie apart and what is written is touched. -/
theorem clearT_spec {rs : List Rec} (h : clearAll (trims rs) = true) {x y : Rec} (hx : x ∈ rs) (hy : y ∈ rs) (hsub : ∀ n ∈ y.W, n ∈ y.T) (hdis : x.i ≠ y.i → x.to ≤ y.from_ ∨ y.to ≤ x.from_) {n : Nat} (hn : n ∈ x.T) (ho : n ∈ y.W ∨ (y.from_ ≤ n ∧ n < y.to)) :
    x.i = y.i ∨ x.anc.testBit y.i = true ∨ y.anc.testBit x.i = true := by
  rcases Decidable.em (x.i = y.i) with hi | hi
  · exact .inl hi
  by_cases hnx : x.from_ ≤ n ∧ n < x.to
  · rcases ho with ho | ho
    · have hny : ¬ (y.from_ ≤ n ∧ n < y.to) := fun e => by rcases hdis hi with h1 | h1 <;> omega
      have := clear_spec (x := trim y) (y := trim x) h (mem_trims hy) (mem_trims hx) (n := n) (mem_trimL.2 ⟨hsub n ho, hny⟩) (.inr hnx)
      rcases this with h1 | h1 | h1
      · exact absurd h1.symm hi
      · exact .inr (.inr h1)
      · exact .inr (.inl h1)
    · rcases hdis hi with h1 | h1 <;> omega
  · refine clear_spec (x := trim x) (y := trim y) h (mem_trims hx) (mem_trims hy) (n := n) (mem_trimL.2 ⟨hn, hnx⟩) ?_
    by_cases hny : y.from_ ≤ n ∧ n < y.to
    · exact .inr hny
    · rcases ho with ho | ho
      · exact .inl (mem_trimL.2 ⟨ho, hny⟩)
      · exact .inr ho
theorem anc_lt (h : ancOk ops anc = true) {i j : Nat} (hi : i < ops.size) (hb : (anc.getD i 0).testBit j = true) : j < i := by
  have h1 := List.all_eq_true.1 h i (List.mem_range.2 hi)
  rw [Array.getElem?_eq_getElem hi] at h1
  simp only [Bool.and_eq_true, decide_eq_true_eq] at h1
  rcases Nat.lt_or_ge j i with h2 | h2
  · exact h2
  · exfalso
    have : anc.getD i 0 < 2 ^ j := Nat.lt_of_lt_of_le h1.1 (Nat.pow_le_pow_right (by omega) h2)
    rw [Nat.testBit_lt_two_pow this] at hb
    cases hb
theorem anc_dep (h : ancOk ops anc = true) {i j : Nat} {o : Oper} (ho : ops[i]? = some o) (hb : (anc.getD i 0).testBit j = true) : ∃ e ∈ o.after.toList, Region.binds .any e = true ∧ (e.on = j ∨ (anc.getD e.on 0).testBit j = true) := by
  obtain ⟨hi, _⟩ := Array.getElem?_eq_some_iff.1 ho
  have hlt := anc_lt h hi hb
  have h1 := List.all_eq_true.1 h i (List.mem_range.2 hi)
  rw [ho] at h1
  simp only [Bool.and_eq_true, decide_eq_true_eq] at h1
  have h2 := List.all_eq_true.1 h1.2 j (List.mem_range.2 hlt)
  rw [hb] at h2
  simp only [Bool.not_true, Bool.false_or] at h2
  obtain ⟨e, he, h3⟩ := List.any_eq_true.1 h2
  simp only [Bool.and_eq_true, Bool.or_eq_true] at h3
  exact ⟨e, he, h3.1, h3.2.imp (fun h => by simpa using h) id⟩
theorem apart_spec (h : apartOk ops anc = true) {i j : Nat} {o q : Oper} {d : Nat} (ho : ops[i]? = some o) (hd : o.dst = some d) (hq : ops[j]? = some q) (hm : d ∈ slots ops q) : i = j ∨ (anc.getD i 0).testBit j = true ∨ (anc.getD j 0).testBit i = true := by
  obtain ⟨hi, _⟩ := Array.getElem?_eq_some_iff.1 ho
  obtain ⟨hj, _⟩ := Array.getElem?_eq_some_iff.1 hq
  have h1 := List.all_eq_true.1 h i (List.mem_range.2 hi)
  rw [ho] at h1
  simp only [hd] at h1
  have h2 := List.all_eq_true.1 h1 j (List.mem_range.2 hj)
  rw [hq] at h2
  simp only [Bool.or_eq_true] at h2
  rcases h2 with ((h2 | h2) | h2) | h2
  · exact .inl (by simpa using h2)
  · exact .inr (.inl h2)
  · exact .inr (.inr h2)
  · have : (slots ops q).contains d = true := List.contains_iff_mem.2 hm
    rw [this] at h2; cases h2
end
end Go.Proofs.Ytonckpblbdopmaa.Rk
