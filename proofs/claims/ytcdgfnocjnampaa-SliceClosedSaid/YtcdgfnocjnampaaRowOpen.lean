/-
  What comes in: a slice that reads as data, its elements one by one, and what the form's reach says of its length. Said of any program.
-/
import Derived.ProofKit
import Derived.OpenShut
import Derived.SizedLaws
namespace Go.Proofs.Ytcdgfnocjnampaa
set_option linter.unusedVariables false
set_option linter.unusedSimpArgs false
open Go Go.RowKit Go.ChangeShapes Go.WideShapes Go.ChangeAt
section
variable {H : Type} {enc : TypeId × Value → H} {w : World} {sp : Nat → Bool} {held : Bool} {P : Program}
theorem weightsAll_mem {e : TypeId} : ∀ {ds : List (DataW H)} {d : DataW H}, d ∈ ds → ∀ n ∈ d.weights P e, n ∈ DataW.weightsAll P e ds
  | x :: ds, d, hd, n, hn => by
    simp only [DataW.weightsAll, List.mem_append]
    rcases List.mem_cons.1 hd with rfl | hd
    · exact .inl hn
    · exact .inr (weightsAll_mem hd n hn)
theorem cellsAt {a : Addr} {n : Nat} {cs : List Value} (h : w.cells? 0 a n = some cs) (hn : 0 < n) : cs.length = n ∧ a = ⟨a.block, a.off, none⟩ ∧ ∀ i (hc : i < cs.length), w.cell? ⟨a.block, a.off + i, none⟩ = some cs[i] := by
  obtain ⟨_, h1, h2⟩ := World.cells?_some h
  have hs : a = ⟨a.block, a.off, none⟩ := by
    have h3 := World.cell?_spot (by have := h2 0 hn; rw [List.getElem?_eq_getElem (by omega)] at this; exact this)
    obtain ⟨b, o, s⟩ := a
    simp [Addr.add] at h3 ⊢; exact h3
  refine ⟨h1, hs, fun i hc => ?_⟩
  have h3 := h2 i (by omega)
  rw [List.getElem?_eq_getElem hc] at h3
  have : a.add i = ⟨a.block, a.off + i, none⟩ := by
    rw [hs]
    unfold Addr.add
    split
    · rename_i h0; simp [h0]
    · rfl
  rw [← this]; exact h3
/-- A slice that reads. -/
theorem rows_of_trod {t e : TypeId} {m fuel : Nat} {v : Value} {x : DataW H × List MemPlace} (ht : P.underlying t = some (.slice e)) (hm : P.cellsOf e = m) (hm0 : 0 < m) (h : DataW.trod enc P w 0 sp held fuel t [v] = some x) :
    ∃ a len cap n', n' < fuel ∧ v = .slice a len cap ∧ len ≤ 9223372036854775807 ∧ ((∀ n ∈ x.1.weights P t, n ≤ reachBytes) → len * P.bytesOf e ≤ reachBytes) ∧ (a = none → cap = 0) ∧
      (0 < len → ∃ b o, a = some ⟨b, o, none⟩ ∧ ∀ i, i < len → ∃ cs y, cs.length = m ∧ (∀ j (hj : j < cs.length), w.cell? ⟨b, o + i * m + j, none⟩ = some cs[j]) ∧ DataW.trod enc P w 0 sp held n' e cs = some y ∧ ∀ n ∈ y.1.weights P e, n ∈ x.1.weights P t) := by
  rcases DataW.trod_slice ht h with ⟨hc, -⟩ | ⟨ad, len, cap, elems, rest, n, rfl, hc, rfl, hb, hl, hx, hlen, hel, hsp, hns⟩
  · simp only [List.cons.injEq, and_true] at hc
    cases fuel with
    | zero => simp [DataW.trod] at h
    | succ n => exact ⟨none, 0, 0, n, by omega, by rw [hc], by omega, fun _ => by omega, fun _ => rfl, fun h => absurd h (Nat.lt_irrefl _)⟩
  · simp only [List.cons.injEq, and_true] at hc
    rw [hm] at hel
    have hch : ∀ i, i < len → ∃ cs y, w.cells? 0 (ad.add (i * m)) m = some cs ∧ DataW.trod enc P w 0 sp held n e cs = some y ∧ elems[i]? = some y := by
      intro i hi
      have h1 := hel i hi
      rw [List.getElem?_eq_getElem (by omega)] at h1
      obtain ⟨cs', h2, h3⟩ := Option.bind_eq_some_iff.1 h1
      exact ⟨cs', _, h2, h3, List.getElem?_eq_getElem (by omega)⟩
    refine ⟨some ad, len, cap, n, by omega, hc, by unfold maxLen at hx; omega, fun hw => ?_, (fun h => by cases h), fun hpos => ?_⟩
    · have := hw ((elems.length + rest.length) * P.bytesOf e) (by simp [DataW.weights, ht])
      have h2 : len * P.bytesOf e ≤ (elems.length + rest.length) * P.bytesOf e := Nat.mul_le_mul_right _ (by omega)
      exact Nat.le_trans h2 this
    · have had : ad = ⟨ad.block, ad.off, none⟩ := by
        obtain ⟨cs, y, h1, -⟩ := hch 0 hpos
        obtain ⟨-, hs, -⟩ := cellsAt h1 hm0
        have e : ad.add (0 * m) = ad := by simp [Addr.add]
        rw [e] at hs
        exact hs
      refine ⟨ad.block, ad.off, congrArg some had, fun i hi => ?_⟩
      obtain ⟨cs, y, h1, h2, h3⟩ := hch i hi
      obtain ⟨hl', hs, hall⟩ := cellsAt h1 hm0
      have hbo : (ad.add (i * m)).block = ad.block ∧ (ad.add (i * m)).off = ad.off + i * m := by
        unfold Addr.add; split
        · rename_i h; simp [h]
        · exact ⟨rfl, rfl⟩
      refine ⟨cs, y, hl', fun j hj => ?_, h2, fun q hq => ?_⟩
      · have := hall j hj
        rw [hbo.1, hbo.2] at this
        exact this
      · have hmem : y.1 ∈ elems.map (·.1) := List.mem_map.2 ⟨y, List.mem_of_getElem? h3, rfl⟩
        have := weightsAll_mem (P := P) (e := e) hmem q hq
        simp [DataW.weights, ht, this]
end
end Go.Proofs.Ytcdgfnocjnampaa
