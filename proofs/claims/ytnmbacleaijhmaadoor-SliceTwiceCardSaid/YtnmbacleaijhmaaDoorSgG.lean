/-
  Joined texts: RowOpen SlOpen SlOpC.
-/
import Derived.ProofKit
import Derived.OpenShut
import Derived.SizedLaws
import Derived.Test.YtnmbacleaijhmaaDoorSgE
/-
  What comes in: a slice that reads as data, its elements one by one, and what the form's reach says of its length. Said of any program.
-/
namespace Go.Proofs.YtnmbacleaijhmaaDoor
set_option linter.unusedVariables false
set_option linter.unusedSimpArgs false
open Go Go.RowKit Go.ChangeShapes Go.WideShapes Go.ChangeAt
section
variable {H : Type} {enc : TypeId × Value → H} {w : World} {sp : Nat → Bool} {held : Bool} {P : Program}
theorem weightsAll_mem {e : TypeId} : ∀ {ds : List (DataW H)} {d : DataW H}, d ∈ ds → ∀ n ∈ d.weights P e, n ∈ DataW.weightsAll P e ds
  | x :: ds, d, hd, n, hn => by
    simp only [DataW.weightsAll, List.mem_append]
    rcases List.mem_cons.1 hd with rfl | hd
    · exact .inl hn
    · exact .inr (weightsAll_mem hd n hn)
theorem cellsAt {a : Addr} {n : Nat} {cs : List Value} (h : w.cells? 0 a n = some cs) (hn : 0 < n) : cs.length = n ∧ a = ⟨a.block, a.off, none⟩ ∧ ∀ i (hc : i < cs.length), w.cell? ⟨a.block, a.off + i, none⟩ = some cs[i] := by
  obtain ⟨_, h1, h2⟩ := World.cells?_some h
  have hs : a = ⟨a.block, a.off, none⟩ := by
    have h3 := World.cell?_spot (by have := h2 0 hn; rw [List.getElem?_eq_getElem (by omega)] at this; exact this)
    obtain ⟨b, o, s⟩ := a
    simp [Addr.add] at h3 ⊢; exact h3
  refine ⟨h1, hs, fun i hc => ?_⟩
  have h3 := h2 i (by omega)
  rw [List.getElem?_eq_getElem hc] at h3
  have : a.add i = ⟨a.block, a.off + i, none⟩ := by
    rw [hs]
    unfold Addr.add
    split
    · rename_i h0; simp [h0]
    · rfl
  rw [← this]; exact h3
/-- A slice that reads. -/
theorem rows_of_trod {t e : TypeId} {m fuel : Nat} {v : Value} {x : DataW H × List MemPlace} (ht : P.underlying t = some (.slice e)) (hm : P.cellsOf e = m) (hm0 : 0 < m) (h : DataW.trod enc P w 0 sp held fuel t [v] = some x) :
    ∃ a len cap n', n' < fuel ∧ v = .slice a len cap ∧ len ≤ 9223372036854775807 ∧ ((∀ n ∈ x.1.weights P t, n ≤ reachBytes) → len * P.bytesOf e ≤ reachBytes) ∧ (a = none → cap = 0) ∧
      (0 < len → ∃ b o, a = some ⟨b, o, none⟩ ∧ ∀ i, i < len → ∃ cs y, cs.length = m ∧ (∀ j (hj : j < cs.length), w.cell? ⟨b, o + i * m + j, none⟩ = some cs[j]) ∧ DataW.trod enc P w 0 sp held n' e cs = some y ∧ ∀ n ∈ y.1.weights P e, n ∈ x.1.weights P t) := by
  rcases DataW.trod_slice ht h with ⟨hc, -⟩ | ⟨ad, len, cap, elems, rest, n, rfl, hc, rfl, hb, hl, hx, hlen, hel, hsp, hns⟩
  · simp only [List.cons.injEq, and_true] at hc
    cases fuel with
    | zero => simp [DataW.trod] at h
    | succ n => exact ⟨none, 0, 0, n, by omega, by rw [hc], by omega, fun _ => by omega, fun _ => rfl, fun h => absurd h (Nat.lt_irrefl _)⟩
  · simp only [List.cons.injEq, and_true] at hc
    rw [hm] at hel
    have hch : ∀ i, i < len → ∃ cs y, w.cells? 0 (ad.add (i * m)) m = some cs ∧ DataW.trod enc P w 0 sp held n e cs = some y ∧ elems[i]? = some y := by
      intro i hi
      have h1 := hel i hi
      rw [List.getElem?_eq_getElem (by omega)] at h1
      obtain ⟨cs', h2, h3⟩ := Option.bind_eq_some_iff.1 h1
      exact ⟨cs', _, h2, h3, List.getElem?_eq_getElem (by omega)⟩
    refine ⟨some ad, len, cap, n, by omega, hc, by unfold maxLen at hx; omega, fun hw => ?_, (fun h => by cases h), fun hpos => ?_⟩
    · have := hw ((elems.length + rest.length) * P.bytesOf e) (by simp [DataW.weights, ht])
      have h2 : len * P.bytesOf e ≤ (elems.length + rest.length) * P.bytesOf e := Nat.mul_le_mul_right _ (by omega)
      exact Nat.le_trans h2 this
    · have had : ad = ⟨ad.block, ad.off, none⟩ := by
        obtain ⟨cs, y, h1, -⟩ := hch 0 hpos
        obtain ⟨-, hs, -⟩ := cellsAt h1 hm0
        have e : ad.add (0 * m) = ad := by simp [Addr.add]
        rw [e] at hs
        exact hs
      refine ⟨ad.block, ad.off, congrArg some had, fun i hi => ?_⟩
      obtain ⟨cs, y, h1, h2, h3⟩ := hch i hi
      obtain ⟨hl', hs, hall⟩ := cellsAt h1 hm0
      have hbo : (ad.add (i * m)).block = ad.block ∧ (ad.add (i * m)).off = ad.off + i * m := by
        unfold Addr.add; split
        · rename_i h; simp [h]
        · exact ⟨rfl, rfl⟩
      refine ⟨cs, y, hl', fun j hj => ?_, h2, fun q hq => ?_⟩
      · have := hall j hj
        rw [hbo.1, hbo.2] at this
        exact this
      · have hmem : y.1 ∈ elems.map (·.1) := List.mem_map.2 ⟨y, List.mem_of_getElem? h3, rfl⟩
        have := weightsAll_mem (P := P) (e := e) hmem q hq
        simp [DataW.weights, ht, this]
end
end Go.Proofs.YtnmbacleaijhmaaDoor
/-
  What comes in: an argument of type []api.Attempt, or []int, that reads as data reads by our own predicates.
-/
namespace Go.Proofs.YtnmbacleaijhmaaDoor
set_option linter.unusedVariables false
set_option linter.unusedSimpArgs false
set_option linter.unusedVariables false
open Go Go.RowKit Go.ChangeShapes Go.WideShapes Go.ChangeAt
theorem cellsPair : Tryd.prog.cellsOf 67 = 2 := by kernel_rfl
theorem cellsAtt : Tryd.prog.cellsOf 27 = 9 := by kernel_rfl
theorem cellsIntS : Tryd.prog.cellsOf 3 = 1 := by kernel_rfl
theorem cellsI64S : Tryd.prog.cellsOf 2 = 1 := by kernel_rfl
theorem cellsBoolS : Tryd.prog.cellsOf 4 = 1 := by kernel_rfl
theorem cellsPairs : Tryd.prog.cellsOf 25 = 1 := by kernel_rfl
theorem bytesPair : Tryd.prog.bytesOf 67 = 16 := by kernel_rfl
theorem bytesAtt : Tryd.prog.bytesOf 27 = 104 := by kernel_rfl
theorem bytesIntS : Tryd.prog.bytesOf 3 = 8 := by kernel_rfl
theorem b64_of {n : Int} (h : (Lit.int .i64 n).wf = true) : B64 n := by unfold B64; simpa [Lit.wf, IntKind.min, IntKind.max, IntKind.signed, IntKind.bits] using h
section
variable {H : Type} {enc : TypeId × Value → H} {w : World} {sp : Nat → Bool} {held : Bool}
set_option maxRecDepth 100000 in
theorem pair_of_trod {fuel : Nat} {cs : List Value} {x : DataW H × List MemPlace} (h : DataW.trod enc Tryd.prog w 0 sp held fuel 67 cs = some x) : ∃ p : Int × Int, cs = [.int .i64 p.1, .int .i64 p.2] ∧ B64 p.1 ∧ B64 p.2 := by
  obtain ⟨xs, n, rfl, -, hlen, hxs, hel⟩ := DataW.trod_struct Tryd.underlying67 h
  rw [cellsPair] at hlen
  match cs, hlen with
  | [c0, c1], _ =>
  match xs, hxs with
  | [x0, x1], _ =>
  have h0 : DataW.trod enc Tryd.prog w 0 sp held n 3 (([c0, c1].drop 0).take (Tryd.prog.cellsOf 3)) = some x0 := hel 0 _ rfl
  have h1 : DataW.trod enc Tryd.prog w 0 sp held n 2 (([c0, c1].drop 1).take (Tryd.prog.cellsOf 2)) = some x1 := hel 1 _ rfl
  rw [cellsIntS] at h0
  rw [cellsI64S] at h1
  simp only [List.drop_zero, List.drop_succ_cons, List.take_succ_cons, List.take_zero] at h0 h1
  obtain ⟨a, e0, -, w0⟩ := DataW.trod_int Tryd.underlying3 h0
  obtain ⟨b, e1, -, w1⟩ := DataW.trod_int Tryd.underlying2 h1
  simp only [List.cons.injEq, and_true] at e0 e1
  subst e0; subst e1
  exact ⟨(a, b), rfl, b64_of w0, b64_of w1⟩
theorem pairs_of_trod {fuel : Nat} {v : Value} {x : DataW H × List MemPlace} (h : DataW.trod enc Tryd.prog w 0 sp held fuel 25 [v] = some x) :
    ∃ l, RdPairs w l v ∧ ((∀ n ∈ x.1.weights Tryd.prog 25, n ≤ reachBytes) → l.length * 16 ≤ reachBytes) := by
  obtain ⟨a, len, cap, n', _, rfl, hlen, hw, -, hx⟩ := rows_of_trod Tryd.underlying25 cellsPair (by decide) h
  rw [bytesPair] at hw
  have hch : ∀ i : Fin len, ∃ p : Int × Int, (B64 p.1 ∧ B64 p.2) ∧ ∀ b o, a = some ⟨b, o, none⟩ → w.cell? ⟨b, o + i.1 * 2, none⟩ = some (.int .i64 p.1) ∧ w.cell? ⟨b, o + i.1 * 2 + 1, none⟩ = some (.int .i64 p.2) := by
    intro i
    obtain ⟨b, o, ha, hi⟩ := hx (by have := i.2; omega)
    obtain ⟨cs, y, h1, h2, h3, -⟩ := hi i.1 i.2
    obtain ⟨p, rfl, hp⟩ := pair_of_trod h3
    refine ⟨p, hp, fun b' o' ha' => ?_⟩
    rw [ha] at ha'
    cases ha'
    exact ⟨by simpa using h2 0 (by simp), by simpa using h2 1 (by simp)⟩
  refine ⟨List.ofFn fun i => Classical.choose (hch i), ⟨a, cap, by simp, by simpa using hlen, ?_, fun hne => ?_⟩, by simpa using hw⟩
  · intro p hp
    obtain ⟨i, rfl⟩ := List.mem_ofFn.1 hp
    exact (Classical.choose_spec (hch i)).1
  · have hpos : 0 < len := by
      rcases Nat.eq_zero_or_pos len with h | h
      · subst h; simp at hne
      · exact h
    obtain ⟨b, o, ha, -⟩ := hx hpos
    refine ⟨b, o, ha, fun k hk => ?_⟩
    simp only [List.length_ofFn] at hk
    have := (Classical.choose_spec (hch ⟨k, hk⟩)).2 b o ha
    simpa using this
set_option maxRecDepth 100000 in
theorem att_of_trod {fuel : Nat} {cs : List Value} {x : DataW H × List MemPlace} (h : DataW.trod enc Tryd.prog w 0 sp held fuel 27 cs = some x) :
    ∃ (a : Att) (r u : Value), cs = [.int .i64 a.th, .int .i64 a.tx, .int .i64 a.from_, .int .i64 a.to_, .int .i64 a.rv, .int .i64 a.wv, .bool a.com, r, u] ∧ AttB a ∧ RdPairs w a.reads r ∧ RdPairs w a.writes u ∧ ((∀ n ∈ x.1.weights Tryd.prog 27, n ≤ reachBytes) → a.reads.length * 16 ≤ reachBytes ∧ a.writes.length * 16 ≤ reachBytes) := by
  obtain ⟨xs, n, rfl, rfl, hlen, hxs, hel⟩ := DataW.trod_struct Tryd.underlying27 h
  rw [cellsAtt] at hlen
  match cs, hlen with
  | [c0, c1, c2, c3, c4, c5, c6, c7, c8], _ =>
  match xs, hxs with
  | [x0, x1, x2, x3, x4, x5, x6, x7, x8], _ =>
  have h0 : DataW.trod enc Tryd.prog w 0 sp held n 3 (([c0, c1, c2, c3, c4, c5, c6, c7, c8].drop 0).take (Tryd.prog.cellsOf 3)) = some x0 := hel 0 _ rfl
  have h1 : DataW.trod enc Tryd.prog w 0 sp held n 3 (([c0, c1, c2, c3, c4, c5, c6, c7, c8].drop 1).take (Tryd.prog.cellsOf 3)) = some x1 := hel 1 _ rfl
  have h2 : DataW.trod enc Tryd.prog w 0 sp held n 3 (([c0, c1, c2, c3, c4, c5, c6, c7, c8].drop 2).take (Tryd.prog.cellsOf 3)) = some x2 := hel 2 _ rfl
  have h3 : DataW.trod enc Tryd.prog w 0 sp held n 3 (([c0, c1, c2, c3, c4, c5, c6, c7, c8].drop 3).take (Tryd.prog.cellsOf 3)) = some x3 := hel 3 _ rfl
  have h4 : DataW.trod enc Tryd.prog w 0 sp held n 3 (([c0, c1, c2, c3, c4, c5, c6, c7, c8].drop 4).take (Tryd.prog.cellsOf 3)) = some x4 := hel 4 _ rfl
  have h5 : DataW.trod enc Tryd.prog w 0 sp held n 3 (([c0, c1, c2, c3, c4, c5, c6, c7, c8].drop 5).take (Tryd.prog.cellsOf 3)) = some x5 := hel 5 _ rfl
  have h6 : DataW.trod enc Tryd.prog w 0 sp held n 4 (([c0, c1, c2, c3, c4, c5, c6, c7, c8].drop 6).take (Tryd.prog.cellsOf 4)) = some x6 := hel 6 _ rfl
  have h7 : DataW.trod enc Tryd.prog w 0 sp held n 25 (([c0, c1, c2, c3, c4, c5, c6, c7, c8].drop 7).take (Tryd.prog.cellsOf 25)) = some x7 := hel 7 _ rfl
  have h8 : DataW.trod enc Tryd.prog w 0 sp held n 25 (([c0, c1, c2, c3, c4, c5, c6, c7, c8].drop 8).take (Tryd.prog.cellsOf 25)) = some x8 := hel 8 _ rfl
  rw [cellsIntS] at h0 h1 h2 h3 h4 h5
  rw [cellsBoolS] at h6
  rw [cellsPairs] at h7 h8
  simp only [List.drop_zero, List.drop_succ_cons, List.take_succ_cons, List.take_zero] at h0 h1 h2 h3 h4 h5 h6 h7 h8
  obtain ⟨a0, e0, -, w0⟩ := DataW.trod_int Tryd.underlying3 h0
  obtain ⟨a1, e1, -, w1⟩ := DataW.trod_int Tryd.underlying3 h1
  obtain ⟨a2, e2, -, w2⟩ := DataW.trod_int Tryd.underlying3 h2
  obtain ⟨a3, e3, -, w3⟩ := DataW.trod_int Tryd.underlying3 h3
  obtain ⟨a4, e4, -, w4⟩ := DataW.trod_int Tryd.underlying3 h4
  obtain ⟨a5, e5, -, w5⟩ := DataW.trod_int Tryd.underlying3 h5
  obtain ⟨a6, e6, -⟩ := DataW.trod_bool Tryd.underlying4 h6
  obtain ⟨l7, r7, g7⟩ := pairs_of_trod h7
  obtain ⟨l8, r8, g8⟩ := pairs_of_trod h8
  simp only [List.cons.injEq, and_true] at e0 e1 e2 e3 e4 e5 e6
  subst e0 e1 e2 e3 e4 e5 e6
  refine ⟨⟨a0, a1, a2, a3, a4, a5, a6, l7, l8⟩, c7, c8, rfl, ⟨b64_of w0, b64_of w1, b64_of w2, b64_of w3, b64_of w4, b64_of w5⟩, r7, r8, fun hw => ⟨g7 fun n hn => hw n ?_, g8 fun n hn => hw n ?_⟩⟩
  · simp only [DataW.weights, Tryd.underlying27]
    exact DataW.weights_mem_each (j := 7) (t := 25) (d := x7.1) rfl rfl n hn
  · simp only [DataW.weights, Tryd.underlying27]
    exact DataW.weights_mem_each (j := 8) (t := 25) (d := x8.1) rfl rfl n hn
theorem atts_of_trod {fuel : Nat} {v : Value} {x : DataW H × List MemPlace} (h : DataW.trod enc Tryd.prog w 0 sp held fuel 23 [v] = some x) :
    ∃ L, RdAtts w L v ∧ ((∀ n ∈ x.1.weights Tryd.prog 23, n ≤ reachBytes) → ∀ a ∈ L, a.reads.length * 16 ≤ reachBytes ∧ a.writes.length * 16 ≤ reachBytes) := by
  obtain ⟨a, len, cap, n', _, rfl, hlen, hw, -, hx⟩ := rows_of_trod Tryd.underlying23 cellsAtt (by decide) h
  have hch : ∀ i : Fin len, ∃ p : Att, (∀ b o, a = some ⟨b, o, none⟩ → ∃ r u, AttC w b (o + i.1 * 9) p r u) ∧ ((∀ n ∈ x.1.weights Tryd.prog 23, n ≤ reachBytes) → p.reads.length * 16 ≤ reachBytes ∧ p.writes.length * 16 ≤ reachBytes) := by
    intro i
    obtain ⟨b, o, ha, hi⟩ := hx (by have := i.2; omega)
    obtain ⟨cs, y, h1, h2, h3, h4⟩ := hi i.1 i.2
    obtain ⟨p, r, u, rfl, hp, hr, hu, hpw⟩ := att_of_trod h3
    refine ⟨p, fun b' o' ha' => ?_, fun hw' => hpw fun n hn => hw' n (h4 n hn)⟩
    rw [ha] at ha'
    cases ha'
    exact ⟨r, u, hp, by simpa using h2 0 (by simp), by simpa using h2 1 (by simp), by simpa using h2 2 (by simp), by simpa using h2 3 (by simp), by simpa using h2 4 (by simp), by simpa using h2 5 (by simp), by simpa using h2 6 (by simp), by simpa using h2 7 (by simp), by simpa using h2 8 (by simp), hr, hu⟩
  refine ⟨List.ofFn fun i => Classical.choose (hch i), ⟨a, cap, by simp, by simpa using hlen, fun hne => ?_⟩, fun hw' p hp => ?_⟩
  · have hpos : 0 < len := by
      rcases Nat.eq_zero_or_pos len with h | h
      · subst h; simp at hne
      · exact h
    obtain ⟨b, o, ha, -⟩ := hx hpos
    refine ⟨b, o, ha, fun k hk => ?_⟩
    simp only [List.length_ofFn] at hk
    have := (Classical.choose_spec (hch ⟨k, hk⟩)).1 b o ha
    simpa using this
  · obtain ⟨i, rfl⟩ := List.mem_ofFn.1 hp
    exact (Classical.choose_spec (hch i)).2 hw'
theorem int_of_trod {fuel : Nat} {cs : List Value} {x : DataW H × List MemPlace} (h : DataW.trod enc Tryd.prog w 0 sp held fuel 3 cs = some x) : ∃ n : Int, cs = [.int .i64 n] ∧ B64 n := by
  obtain ⟨a, e0, -, w0⟩ := DataW.trod_int Tryd.underlying3 h
  exact ⟨a, e0, b64_of w0⟩
theorem ints_of_trod {fuel : Nat} {v : Value} {x : DataW H × List MemPlace} (h : DataW.trod enc Tryd.prog w 0 sp held fuel 29 [v] = some x) : ∃ l, RdI w l v := by
  obtain ⟨a, len, cap, n', _, rfl, hlen, hw, hnil, hx⟩ := rows_of_trod Tryd.underlying29 cellsIntS (by decide) h
  have hch : ∀ i : Fin len, ∃ p : Int, B64 p ∧ ∀ b o, a = some ⟨b, o, none⟩ → w.cell? ⟨b, o + i.1, none⟩ = some (.int .i64 p) := by
    intro i
    obtain ⟨b, o, ha, hi⟩ := hx (by have := i.2; omega)
    obtain ⟨cs, y, h1, h2, h3, -⟩ := hi i.1 i.2
    obtain ⟨p, rfl, hp⟩ := int_of_trod h3
    refine ⟨p, hp, fun b' o' ha' => ?_⟩
    rw [ha] at ha'
    cases ha'
    simpa using h2 0 (by simp)
  refine ⟨List.ofFn fun i => Classical.choose (hch i), a, cap, by simp, by simpa using hlen, ?_, fun hne => ?_, hnil⟩
  · intro p hp
    obtain ⟨i, rfl⟩ := List.mem_ofFn.1 hp
    exact (Classical.choose_spec (hch i)).1
  · have hpos : 0 < len := by
      rcases Nat.eq_zero_or_pos len with h | h
      · subst h; simp at hne
      · exact h
    obtain ⟨b, o, ha, -⟩ := hx hpos
    refine ⟨b, o, ha, fun k hk => ?_⟩
    simp only [List.length_ofFn] at hk
    have := (Classical.choose_spec (hch ⟨k, hk⟩)).2 b o ha
    simpa using this
set_option maxRecDepth 100000 in
theorem open_Atts {r : Go.Reach} {b0 : Nat} {v : Value} {d : DataW H} {p : List MemPlace}
    (hv : Value.okWide Tryd.prog w r b0 23 v) (h : DataW.Trod enc Tryd.prog w 0 sp held 23 v d p) :
    ∃ L, RdAtts w L v ∧ ((∀ n ∈ d.weights Tryd.prog 23, n ≤ reachBytes) → ∀ a ∈ L, a.reads.length * 16 ≤ reachBytes ∧ a.writes.length * 16 ≤ reachBytes) := by
  obtain ⟨a, len, cap, rfl⟩ := okWide_slice Tryd.underlying23 hv
  obtain ⟨fuel, hf⟩ := h
  exact atts_of_trod hf
set_option maxRecDepth 100000 in
theorem open_IntS {r : Go.Reach} {b0 : Nat} {v : Value} {d : DataW H} {p : List MemPlace}
    (hv : Value.okWide Tryd.prog w r b0 29 v) (h : DataW.Trod enc Tryd.prog w 0 sp held 29 v d p) : ∃ l, RdI w l v := by
  obtain ⟨a, len, cap, rfl⟩ := okWide_slice Tryd.underlying29 hv
  obtain ⟨fuel, hf⟩ := h
  exact ints_of_trod hf
end
end Go.Proofs.YtnmbacleaijhmaaDoor
/-
  What comes in: an argument of type []int, with its capacity.
-/
namespace Go.Proofs.YtnmbacleaijhmaaDoor
set_option linter.unusedVariables false
set_option linter.unusedSimpArgs false
set_option linter.unusedVariables false
open Go Go.RowKit Go.ChangeShapes Go.WideShapes Go.ChangeAt
section
variable {H : Type} {enc : TypeId × Value → H} {w : World} {sp : Nat → Bool} {held : Bool}
theorem sliceCap_of_trod {P : Program} {t e : TypeId} {fuel : Nat} {v : Value} {x : DataW H × List MemPlace} (ht : P.underlying t = some (.slice e)) (h : DataW.trod enc P w 0 sp held fuel t [v] = some x) : ∃ a n c, v = .slice a n c ∧ n ≤ c := by
  rcases DataW.trod_slice ht h with ⟨hc, -⟩ | ⟨ad, len, cap, elems, rest, n, rfl, hc, rfl, hb, hl, hx, hlen, hel, hsp, hns⟩
  · simp only [List.cons.injEq, and_true] at hc
    exact ⟨none, 0, 0, hc, Nat.le_refl _⟩
  · simp only [List.cons.injEq, and_true] at hc
    exact ⟨some ad, len, cap, hc, hl⟩
set_option maxRecDepth 100000 in
theorem open_IntSC {r : Go.Reach} {b0 : Nat} {v : Value} {d : DataW H} {p : List MemPlace}
    (hv : Value.okWide Tryd.prog w r b0 29 v) (h : DataW.Trod enc Tryd.prog w 0 sp held 29 v d p) : ∃ l a c, v = .slice a (List.length l) c ∧ l.length ≤ c ∧ RdI w l v := by
  obtain ⟨l, hl⟩ := open_IntS hv h
  obtain ⟨a, len, cap, rfl⟩ := okWide_slice Tryd.underlying29 hv
  obtain ⟨fuel, hf⟩ := h
  obtain ⟨a', n', c', e1, h1⟩ := sliceCap_of_trod Tryd.underlying29 hf
  obtain ⟨a2, c2, e2, -⟩ := id hl
  cases e1
  cases e2
  exact ⟨l, _, _, rfl, h1, hl⟩
end
end Go.Proofs.YtnmbacleaijhmaaDoor
