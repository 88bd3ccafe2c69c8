/-
  Walk: slices.Insert of one number into a row of numbers, by the shelf's contracts.
-/
import Derived.Test.YtcdgfnocjnampaaShelfI
import Derived.Test.YtcdgfnocjnampaaSlQ
namespace Go.Proofs.Ytcdgfnocjnampaa.In
set_option linter.unusedVariables false
open Go Go.RowKit Go.Shelf
set_option maxRecDepth 100000
set_option maxHeartbeats 4000000
set_option linter.unusedSimpArgs false
set_option linter.unusedVariables false
/-- What is outside stands. -/
structure Outs (w w' : World) : Prop where
  os : w'.os = w.os
  tape : w'.tape = w.tape
  output : w'.output = w.output
theorem Outs.trans {a b c : World} (h : Outs a b) (k : Outs b c) : Outs a c := ⟨k.os.trans h.os, k.tape.trans h.tape, k.output.trans h.output⟩
def ow {α : Type} : List α → List α → Nat → List α
  | [], cs, _ => cs
  | v :: vs, cs, off => ow vs (cs.set off v) (off + 1)
theorem ow_length {α : Type} : ∀ (vs cs : List α) (off : Nat), (ow vs cs off).length = cs.length
  | [], _, _ => rfl
  | v :: vs, cs, off => by simp [ow, ow_length vs]
theorem cell_of {W : World} {b i : Nat} {c : Array Value} {el : TypeId} {fr : Nat × Nat} (h : W.heap[b]? = some (.cells c el fr)) : W.cell? ⟨b, i, none⟩ = c[i]? := by
  simp [World.cell?, h]
theorem frozen_of {W : World} {b i : Nat} {c : Array Value} {el : TypeId} {lo hi : Nat} (h : W.heap[b]? = some (.cells c el (lo, hi))) : W.frozen? ⟨b, i, none⟩ = (decide (lo ≤ i) && decide (i < hi)) := by
  simp [World.frozen?, h]
theorem addr_add (b off i : Nat) : (⟨b, off, none⟩ : Addr).add i = ⟨b, off + i, none⟩ := by
  unfold Addr.add
  split
  · subst_vars; rfl
  · rfl
theorem ow_get {α : Type} : ∀ (us l : List α) (k j : Nat), k + us.length ≤ l.length → (ow us l k)[j]? = if k ≤ j ∧ j < k + us.length then us[j - k]? else l[j]?
  | [], l, k, j, _ => by
    rw [if_neg (by simp only [List.length_nil]; omega)]
    rfl
  | u :: us, l, k, j, h => by
    simp only [List.length_cons] at h
    show (ow us (l.set k u) (k + 1))[j]? = _
    rw [ow_get us (l.set k u) (k + 1) j (by rw [List.length_set]; omega)]
    simp only [List.length_cons]
    by_cases h1 : k + 1 ≤ j ∧ j < k + 1 + us.length
    · rw [if_pos h1, if_pos (by omega), show j - k = (j - (k + 1)) + 1 by omega, List.getElem?_cons_succ]
    · rw [if_neg h1]
      by_cases h2 : j = k
      · subst h2
        rw [if_pos (by omega), List.getElem?_set, if_pos rfl, if_pos (by omega), Nat.sub_self]
        rfl
      · rw [if_neg (by omega), List.getElem?_set, if_neg (fun e => h2 e.symm)]
theorem ins_get {α : Type} (cv vs : List α) (i j : Nat) (hv : vs.length = 1) (hi : i ≤ cv.length) : (cv.take i ++ vs ++ cv.drop i)[j]? = if j < i then cv[j]? else if j = i then vs[0]? else cv[j - 1]? := by
  have e1 : (cv.take i).length = i := by rw [List.length_take]; omega
  by_cases h1 : j < i
  · rw [if_pos h1, List.getElem?_append_left (by rw [List.length_append, e1]; omega), List.getElem?_append_left (by omega), List.getElem?_take, if_pos h1]
  · rw [if_neg h1]
    by_cases h2 : j = i
    · subst h2
      rw [if_pos rfl, List.getElem?_append_left (by rw [List.length_append, e1]; omega), List.getElem?_append_right (by omega), e1, Nat.sub_self]
    · rw [if_neg h2, List.getElem?_append_right (by rw [List.length_append, e1]; omega), List.length_append, e1, List.getElem?_drop, hv, show i + (j - (i + 1)) = j - 1 by omega]
/-- The row, however the two parts are laid. -/
theorem ins_row {α : Type} (cv vs X : List α) (i : Nat) (hv : vs.length = 1) (hi : i < cv.length) (hX : cv.length + 1 ≤ X.length) (hp : ∀ j, j < i → X[j]? = cv[j]?) :
    (ow (cv.drop i) (ow vs X i) (i + 1)).take (cv.length + 1) = cv.take i ++ vs ++ cv.drop i ∧ (ow vs (ow (cv.drop i) X (i + 1)) i).take (cv.length + 1) = cv.take i ++ vs ++ cv.drop i := by
  have hd : (cv.drop i).length = cv.length - i := List.length_drop
  have key : ∀ j, (if j < cv.length + 1 then (if i + 1 ≤ j ∧ j < i + 1 + (cv.length - i) then (cv.drop i)[j - (i + 1)]? else if i ≤ j ∧ j < i + 1 then vs[j - i]? else X[j]?) else none) = if j < i then cv[j]? else if j = i then vs[0]? else cv[j - 1]? := by
    intro j
    by_cases h0 : j < cv.length + 1
    · rw [if_pos h0]
      by_cases h1 : j < i
      · rw [if_neg (by omega), if_neg (by omega), if_pos h1, hp j h1]
      · by_cases h2 : j = i
        · subst h2
          rw [if_neg (by omega), if_pos (by omega), if_neg h1, if_pos rfl, Nat.sub_self]
        · rw [if_pos (by omega), if_neg h1, if_neg h2, List.getElem?_drop, show i + (j - (i + 1)) = j - 1 by omega]
    · rw [if_neg h0, if_neg (by omega), if_neg (by omega)]
      symm
      exact List.getElem?_eq_none (by omega)
  constructor
  · refine List.ext_getElem? fun j => ?_
    rw [ins_get cv vs i j hv (by omega), ← key j, List.getElem?_take, ow_get _ _ _ _ (by rw [ow_length, hd]; omega), ow_get _ _ _ _ (by omega), hd, hv]
  · refine List.ext_getElem? fun j => ?_
    rw [ins_get cv vs i j hv (by omega), ← key j, List.getElem?_take, ow_get _ _ _ _ (by rw [ow_length]; omega), ow_get _ _ _ _ (by rw [hd]; omega), hd, hv]
    by_cases h1 : i ≤ j ∧ j < i + 1
    · rw [if_pos h1, if_neg (show ¬ (i + 1 ≤ j ∧ j < i + 1 + (cv.length - i)) by omega), if_pos h1]
    · rw [if_neg h1, if_neg h1]
theorem setCells_heap (b : Nat) : ∀ (vs : List Value) (o : Nat) (w : World) (c : Array Value) (el : TypeId) (fr : Nat × Nat), w.heap[b]? = some (.cells c el fr) → (w.setCells b o vs).heap[b]? = some (.cells ⟨ow vs c.toList o⟩ el fr) ∧ (∀ k, k ≠ b → (w.setCells b o vs).heap[k]? = w.heap[k]?) ∧ Outs w (w.setCells b o vs)
  | [], o, w, c, el, fr, h => ⟨h, fun _ _ => rfl, ⟨rfl, rfl, rfl⟩⟩
  | v :: r, o, w, c, el, fr, h => by
    have h1 : (w.setCell ⟨b, o, none⟩ v).heap[b]? = some (.cells (c.setIfInBounds o v) el fr) := by simp [World.setCell, Array.getElem?_modify, h]
    obtain ⟨a1, a2, a3⟩ := setCells_heap b r (o + 1) (w.setCell ⟨b, o, none⟩ v) _ el fr h1
    refine ⟨?_, fun k hk => ?_, ⟨a3.os, a3.tape, a3.output⟩⟩
    · show ((w.setCell ⟨b, o, none⟩ v).setCells b (o + 1) r).heap[b]? = _
      rw [a1]
      simp [ow]
    · show ((w.setCell ⟨b, o, none⟩ v).setCells b (o + 1) r).heap[k]? = _
      rw [a2 k hk]
      simp [World.setCell, Array.getElem?_modify, Ne.symm hk]

theorem zc_size (n : Nat) : (Builtin.zeroCells (Value.int .i64 0).cells n).size = n := by rw [size_zeroCells]; exact Nat.mul_one n
theorem row_app (cv vs : List Value) (Z : Array Value) : ((cv ++ vs).toArray ++ Z).toList = cv ++ vs ++ Z.toList := by rw [Array.toList_append]
theorem alloc_at (w : World) (ob : Obj) : (w.alloc ob).heap[w.heap.size]? = some ob := by show (w.heap.push ob)[w.heap.size]? = some ob; rw [Array.getElem?_push, if_pos rfl]
theorem alloc_past (w : World) (ob : Obj) (k : Nat) (hk : k < w.heap.size) : (w.alloc ob).heap[k]? = w.heap[k]? := by show (w.heap.push ob)[k]? = _; rw [Array.getElem?_push, if_neg (by omega)]
theorem ins_any (n₀ : Nat) (v : Value) (n i vb vc : Nat) (cv : List Value) (x : Value) (W : World) (hown : W.ownsRow n₀ 3 1 v n cv) (h1c : ∀ u ∈ cv, u.oneCell' = true) (h1x : x.oneCell' = true) (hi : i ≤ n) (hvb : Blk W vb #[x] 3) (hne : v.ownBlock ≠ some vb) (hbig : n + 1 ≤ 17592186044415) (hn₀ : n₀ ≤ W.heap.size) :
    Calls Try.prog 15 #[v, .int .i64 (i : Int), .slice (some ⟨vb, 0, none⟩) 1 vc] W fun e w' => ∃ v', e = .returned v' ∧ w'.ownsRow n₀ 3 1 v' (n + 1) (cv.take i ++ [x] ++ cv.drop i) ∧ W.grownBy w' v.ownBlock ∧ (v'.ownBlock = v.ownBlock ∨ ∃ q, v'.ownBlock = some q ∧ W.heap.size ≤ q) := by
  have hcvl : cv.length = n := by have := hown.1; omega
  have hvs : ∀ j u, [x][j]? = some u → W.cell? ⟨vb, 0 + j, none⟩ = some u := fun j u hj => by
    rcases j with _ | j
    · simp at hj; subst hj; exact hvb.cell 0 rfl
    · simp at hj
  have h1v : ∀ u ∈ [x], u.oneCell' = true := fun u hu => by rw [List.mem_singleton.1 hu]; exact h1x
  have hB : n + 1 ≤ maxLen := by unfold maxLen; omega
  have newBlk : ∀ (X : List Value) (G : Nat) (W' : World), W'.heap[W.heap.size]? = some (.cells ⟨X⟩ 3 (0, 0)) → (∀ k, k < W.heap.size → W'.heap[k]? = W.heap[k]?) → X.take (n + 1) = cv.take i ++ [x] ++ cv.drop i → X.length = G → n + 1 ≤ G → G ≤ maxLen → Outs W W' →
      ∃ v', (Ending.returned (.slice (some ⟨W.heap.size, 0, none⟩) (n + 1) G)) = .returned v' ∧ W'.ownsRow n₀ 3 1 v' (n + 1) (cv.take i ++ [x] ++ cv.drop i) ∧ W.grownBy W' v.ownBlock ∧ (v'.ownBlock = v.ownBlock ∨ ∃ q, v'.ownBlock = some q ∧ W.heap.size ≤ q) := by
    intro X G W' q1 q2 hX hG hl hm ho
    have hlt := (Array.getElem?_eq_some_iff.1 q1).1
    refine ⟨_, rfl, ⟨?_, .inr ⟨W.heap.size, G, ⟨X⟩, rfl, hn₀, q1, hl, hm, by rw [Nat.mul_one]; exact hG, by rw [Nat.mul_one]; exact hX⟩⟩, ⟨ho.os, ho.tape, ho.output, by omega, fun k hk _ => q2 k hk⟩, .inr ⟨_, rfl, Nat.le_refl _⟩⟩
    rw [List.length_append, List.length_append, List.length_take, List.length_drop, List.length_singleton]; omega
  rcases hown.2 with ⟨rfl, h0⟩ | ⟨g, cap, c, rfl, hb, hh, hcap, hcm, hsz, htk⟩
  · subst h0
    obtain rfl : i = 0 := by omega
    obtain rfl : cv = [] := List.eq_nil_of_length_eq_zero hcvl
    refine (Any2.slices_Insert_int_end_grow laysIns none 0 0 vb 0 1 vc [] [x] W (by decide) (by decide) (by decide) (by decide) rfl rfl (fun _ => rfl) (fun a h => by cases h) hvs h1v).mono fun e W' ⟨he, hw⟩ => ?_
    subst he
    have hg := grownCap_ge W (0 + 1) 0 (laysIns_ren.t 3)
    have hg' := grownCap_le_maxLen W (0 + 1) 0 (laysIns_ren.t 3) (by decide)
    refine newBlk (([] ++ [x]).toArray ++ Builtin.zeroCells (Value.int .i64 0).cells (grownCap W (0 + 1) 0 (laysIns_ren.t 3) - (0 + 1))).toList _ W' (by rw [hw]; exact alloc_at W _) (fun k hk => by rw [hw]; exact alloc_past W _ k hk) ?_ ?_ hg hg' (by rw [hw]; exact ⟨rfl, rfl, rfl⟩)
    · rw [row_app]; simp
    · have e1 : ∀ A : Array Value, A.toList.length = A.size := fun _ => rfl
      rw [e1, Array.size_append, zc_size]
      have e2 : (([] ++ [x] : List Value).toArray).size = 1 := rfl
      rw [e2]; omega
  · have hsz : c.size = cap := by rw [hsz, Nat.mul_one]
    have htk : c.toList.take n = cv := by rw [← htk, Nat.mul_one]
    have hcs : ∀ j u, cv[j]? = some u → W.cell? ⟨g, 0 + j, none⟩ = some u := fun j u hj => by
      rw [cell_of hh, Nat.zero_add]
      rw [← htk, List.getElem?_take] at hj
      split at hj
      · rw [Array.getElem?_toList] at hj; exact hj
      · cases hj
    have hgv : vb ≠ g := fun e => hne (by rw [e]; rfl)
    have inPlace : ∀ (X : List Value) (W' : World), n + 1 ≤ cap → W'.heap[g]? = some (.cells ⟨X⟩ 3 (0, 0)) → X.length = c.size → X.take (n + 1) = cv.take i ++ [x] ++ cv.drop i → (∀ k, k ≠ g → W'.heap[k]? = W.heap[k]?) → W.heap.size ≤ W'.heap.size → Outs W W' →
        ∃ v', (Ending.returned (.slice (some ⟨g, 0, none⟩) (n + 1) cap)) = .returned v' ∧ W'.ownsRow n₀ 3 1 v' (n + 1) (cv.take i ++ [x] ++ cv.drop i) ∧ W.grownBy W' (Value.slice (some ⟨g, 0, none⟩) n cap).ownBlock ∧ (v'.ownBlock = (Value.slice (some ⟨g, 0, none⟩) n cap).ownBlock ∨ ∃ q, v'.ownBlock = some q ∧ W.heap.size ≤ q) := by
      intro X W' hr q1 hX hXt q2 hs ho
      refine ⟨_, rfl, ⟨?_, .inr ⟨g, cap, ⟨X⟩, rfl, hb, q1, hr, hcm, by rw [Nat.mul_one]; show X.length = cap; omega, by rw [Nat.mul_one]; exact hXt⟩⟩, ⟨ho.os, ho.tape, ho.output, hs, fun k _ hk => q2 k (fun e => hk (by rw [e]; rfl))⟩, .inl rfl⟩
      rw [List.length_append, List.length_append, List.length_take, List.length_drop, List.length_singleton]; omega
    have szS : ∀ (vs : List Value) (o : Nat) (w : World), (w.setCells g o vs).heap.size = w.heap.size := by
      intro vs
      induction vs with
      | nil => intro o w; rfl
      | cons v r ih => intro o w; show ((w.setCell ⟨g, o, none⟩ v).setCells g (o + 1) r).heap.size = _; rw [ih]; simp [World.setCell]
    by_cases hroom : n + 1 ≤ cap
    · by_cases hin : i < n
      · have hsha : W.shape? vb = some (3, 1) := by have := hvb; unfold Blk at this; simp [World.shape?, this]
        have hshb : W.shape? g = some (3, c.size) := by simp [World.shape?, hh]
        refine (Any2.slices_Insert_int_shift laysIns g 0 n cap i vb 0 1 vc cv [x] W hin (by decide) hroom (by unfold maxLen at hcm; omega) hgv hcvl rfl hcs (fun j hj => ?_) (fun j hj => ?_) hvs h1c h1v 3 3 1 c.size hsha hshb (by omega) (hvb.free _) (hvb.free _)).mono fun e W' ⟨he, hw⟩ => ?_
        · rw [cell_of hh, Array.getElem?_eq_getElem (by omega)]; rfl
        · rw [frozen_of hh]; simp
        · subst he
          obtain ⟨a1, a2, a3⟩ := setCells_heap g (cv.drop i) (0 + (i + 1)) W.drew c 3 (0, 0) hh
          obtain ⟨q1, q2, q3⟩ := setCells_heap g [x] (0 + i) _ _ 3 (0, 0) a1
          rw [← hw] at q1 q2 q3
          refine inPlace _ W' hroom q1 (by simp [ow_length]) ?_ (fun k hk => by rw [q2 k hk, a2 k hk]; rfl) ?_ ?_
          · have := (ins_row cv [x] c.toList i rfl (by omega) (by have : c.toList.length = c.size := rfl; omega) (fun j hj => by rw [← htk, List.getElem?_take, if_pos (by omega)])).2
            rw [hcvl] at this
            simpa using this
          · rw [hw, szS, szS]; exact Nat.le_refl _
          · exact Outs.trans (Outs.trans (b := W.drew) ⟨rfl, rfl, rfl⟩ a3) q3
      · have hie : i = n := by omega
        subst hie
        refine (Any2.slices_Insert_int_end_room laysIns g 0 i cap vb 0 1 vc [x] W (by decide) hroom (by unfold maxLen at hcm; omega) rfl (fun j hj => ?_) (fun j hj => ?_) hvs h1v).mono fun e W' ⟨he, hw⟩ => ?_
        · rw [cell_of hh, Array.getElem?_eq_getElem (by omega)]; rfl
        · rw [frozen_of hh]; simp
        · subst he
          obtain ⟨q1, q2, q3⟩ := setCells_heap g [x] (0 + i) W c 3 (0, 0) hh
          rw [← hw] at q1 q2 q3
          refine inPlace _ W' hroom q1 (by simp [ow_length]) ?_ q2 ?_ q3
          · have e1 : cv.take i = cv := List.take_of_length_le (by omega)
            have e2 : cv.drop i = [] := List.drop_eq_nil_of_le (by omega)
            rw [e1, e2, List.append_nil, Nat.zero_add]
            show (c.toList.set i x).take (i + 1) = _
            rw [List.take_set, List.take_succ_eq_append_getElem (by show i < c.toList.length; have : c.toList.length = c.size := rfl; omega), List.set_append_right _ _ (by rw [htk]; omega), htk]
            rw [show i - cv.length = 0 by omega]; rfl
          · rw [hw, szS]; exact Nat.le_refl _
    · have hcap : cap = n := by omega
      subst hcap
      have hGl := grownCap_ge W (cap + 1) cap (laysIns_ren.t 3)
      have hGb := grownCap_le_maxLen W (cap + 1) cap (laysIns_ren.t 3) hB
      by_cases hin : i < cap
      · refine (Any2.slices_Insert_int_grow laysIns g 0 cap cap i vb 0 1 vc cv [x] W hin (by decide) (Nat.le_refl _) (by omega) (by omega) hcvl rfl hcs hvs h1c h1v).mono fun e W' ⟨he, hw⟩ => ?_
        subst he
        obtain ⟨GC, hGC⟩ : ∃ GC, GC = grownCap W (cap + 1) cap (laysIns_ren.t 3) := ⟨_, rfl⟩
        rw [← hGC] at hw hGl hGb ⊢
        obtain ⟨ROW, hROW⟩ : ∃ ROW : Array Value, ROW = (cv.take i).toArray ++ Builtin.zeroCells (Value.int .i64 0).cells (cap + 1 - i) ++ Builtin.zeroCells (Value.int .i64 0).cells (GC - (cap + 1)) := ⟨_, rfl⟩
        rw [← hROW] at hw
        have hRs : ROW.size = GC := by
          rw [hROW]
          have e2 : ((cv.take i).toArray).size = i := by show (cv.take i).length = i; rw [List.length_take]; omega
          rw [Array.size_append, Array.size_append, zc_size, zc_size, e2]
          omega
        have h0 : (W.alloc (.cells ROW (laysIns_ren.t 3))).drew.heap[W.heap.size]? = some (.cells ROW (laysIns_ren.t 3)) := alloc_at W _
        obtain ⟨a1, a2, a3⟩ := setCells_heap W.heap.size [x] i _ _ _ _ h0
        obtain ⟨q1, q2, q3⟩ := setCells_heap W.heap.size (cv.drop i) (i + 1) (((W.alloc (.cells ROW (laysIns_ren.t 3))).drew.setCells W.heap.size i [x]).drew) _ _ _ a1
        rw [← hw] at q1 q2 q3
        refine newBlk _ GC W' q1 (fun k hk => ?_) ?_ (by simp [ow_length, hRs]) hGl hGb ?_
        · rw [q2 k (by omega)]
          show ((W.alloc (.cells ROW (laysIns_ren.t 3))).drew.setCells W.heap.size i [x]).heap[k]? = _
          rw [a2 k (by omega)]
          exact alloc_past W _ k hk
        · have := (ins_row cv [x] ROW.toList i rfl (by omega) (by have : ROW.toList.length = ROW.size := rfl; omega) (fun j hj => by
            have e1 : (cv.take i).length = i := by rw [List.length_take]; omega
            have e2 : ((cv.take i).toArray.toList).length = i := e1
            rw [hROW, Array.toList_append, Array.toList_append, List.getElem?_append_left (by rw [List.length_append, e2]; omega), List.getElem?_append_left (by rw [e2]; omega)]
            show (cv.take i)[j]? = _
            rw [List.getElem?_take, if_pos hj])).1
          rw [hcvl] at this
          exact this
        · exact Outs.trans (Outs.trans (Outs.trans (b := (W.alloc (.cells ROW (laysIns_ren.t 3))).drew) ⟨rfl, rfl, rfl⟩ a3) (c := ((W.alloc (.cells ROW (laysIns_ren.t 3))).drew.setCells W.heap.size i [x]).drew) ⟨rfl, rfl, rfl⟩) q3
      · have hie : i = cap := by omega
        subst hie
        refine (Any2.slices_Insert_int_end_grow laysIns (some ⟨g, 0, none⟩) i i vb 0 1 vc cv [x] W (by decide) (Nat.le_refl _) (by omega) (by omega) hcvl rfl (fun h => by cases h) (fun a h => ?_) hvs h1v).mono fun e W' ⟨he, hw⟩ => ?_
        · cases h
          intro j v hj
          rw [addr_add]
          exact hcs j v hj
        · subst he
          refine newBlk ((cv ++ [x]).toArray ++ Builtin.zeroCells (Value.int .i64 0).cells (grownCap W (i + 1) i (laysIns_ren.t 3) - (i + 1))).toList _ W' (by rw [hw]; exact alloc_at W _) (fun k hk => by rw [hw]; exact alloc_past W _ k hk) ?_ ?_ hGl hGb (by rw [hw]; exact ⟨rfl, rfl, rfl⟩)
          · rw [row_app, List.take_append_of_le_length (by rw [List.length_append, List.length_singleton]; omega), List.take_of_length_le (by rw [List.length_append, List.length_singleton]; omega)]
            have e1 : cv.take i = cv := List.take_of_length_le (by omega)
            have e2 : cv.drop i = [] := List.drop_eq_nil_of_le (by omega)
            rw [e1, e2]
            simp
          · have e1 : ∀ A : Array Value, A.toList.length = A.size := fun _ => rfl
            have e2 : ((cv ++ [x]).toArray).size = i + 1 := by show (cv ++ [x]).length = i + 1; rw [List.length_append, List.length_singleton]; omega
            rw [e1, Array.size_append, zc_size, e2]
            omega
end Go.Proofs.Ytcdgfnocjnampaa.In
