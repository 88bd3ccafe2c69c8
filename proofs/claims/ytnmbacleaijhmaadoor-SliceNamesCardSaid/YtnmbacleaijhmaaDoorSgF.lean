/-
  Joined texts: SlC1 SlS SlC2 SlC3 SlM1 SlM2.
-/
import Derived.Test.YtnmbacleaijhmaaDoorSgE
import Derived.Test.YtnmbacleaijhmaaDoorSgD
import Derived.Test.YtnmbacleaijhmaaDoorSgC
import Derived.Deep.DeepCutAuto
import Derived.Deep.CutBlock
import Derived.BigQuiet
/-
  Walks for slice.By: whether a variable is none of a trace's, and BinarySearch for what is no number of an attempt.
-/
namespace Go.Proofs.YtnmbacleaijhmaaDoor
set_option linter.unusedVariables false
set_option linter.unusedSimpArgs false
set_option linter.unusedVariables false
open Go Go.RowKit
theorem RdI.shape {w : World} {l : List Int} {v : Value} (h : RdI w l v) : ∃ a cap, v = .slice a l.length cap := by
  obtain ⟨a, cap, h1, _⟩ := h
  exact ⟨a, cap, h1⟩
def outV (V v : Int) : Bool := decide (v < 0) || decide (V ≤ v)
/-- The place of the first one that is none; -1: all are. -/
def findV (V : Int) : List Int → Nat → Int
  | [], _ => -1
  | x :: xs, k => if outV V x = true then k else findV V xs (k + 1)
theorem findV_any (V : Int) (l : List Int) (k : Nat) : decide (0 ≤ findV V l k) = l.any (outV V) := by
  induction l generalizing k with
  | nil => simp [findV]
  | cons x xs ih =>
    simp only [findV, List.any_cons]
    split
    · rename_i h; simp [h]
    · rename_i h; simp [ih, h]
theorem findV_drop (V : Int) (l : List Int) (k : Nat) (h : k < l.length) : findV V (l.drop k) k = if outV V l[k] = true then (k : Int) else findV V (l.drop (k + 1)) (k + 1) := by
  rw [List.drop_eq_getElem_cons h]; rfl
set_option maxRecDepth 100000 in
set_option maxHeartbeats 4000000 in
theorem by1_any (V v : Int) (b : Nat) (w : World) (h : w.cell? ⟨b, 1, none⟩ = some (.int .i64 V)) :
    Calls Tryd.prog 25 #[.int .i64 v, .pointer (some ⟨b, 0, none⟩)] w fun e w' => e = .returned (.bool (outV V v)) ∧ Below w.heap.size w w' := by
  have hl := lt_of_cell h
  unfold outV
  by_cases h1 : v < 0
  · have j1 : decide (v < 0) = true := decide_eq_true h1
    clear h1
    go_enter Tryd.func25, Tryd.ntmps25
    go_wp2_with fail
    go_ret
    exact ⟨by simp [j1], ext_refl _⟩
  · have j1 : decide (v < 0) = false := decide_eq_false h1
    clear h1
    go_enter Tryd.func25, Tryd.ntmps25
    go_wp2_with fail
    go_ret
    exact ⟨by simp [j1], ext_refl _⟩
set_option maxRecDepth 100000 in
set_option maxHeartbeats 4000000 in
theorem indexV_any (l : List Int) (V : Int) (c : Nat) (w : World) (sv : Value) (hr : RdI w l sv) (hc : w.cell? ⟨c, 1, none⟩ = some (.int .i64 V)) :
    Calls Tryd.prog 36 #[sv, .func (.func 25) #[] #[.pointer (some ⟨c, 0, none⟩)]] w fun e' w' => e' = .returned (.int .i64 (findV V l 0)) ∧ Below w.heap.size w w' := by
  obtain ⟨a, cap, rfl, hlen, hok, hx, -⟩ := hr
  have HX := hid hx; clear hx
  go_enter Tryd.func36, Tryd.ntmps36
  go_wp2_with fail
  go_loopw [8] (fun i wr => ∃ k : Nat, k ≤ l.length ∧ i = .int .i64 k ∧ Hid (findV V l 0 = findV V (l.drop k) k) ∧ Below w.heap.size w wr) (fun i _ => l.length - (intOf i).toNat)
  case atStart => exact ⟨0, Nat.zero_le _, rfl, rfl, ext_refl _⟩
  case round =>
    obtain ⟨k, hk, rfl, HF, hb⟩ := hrel
    by_cases hlt : k < l.length
    · obtain ⟨b, off, rfl, hrd⟩ := HX.out (by intro h; subst h; simp at hlt)
      have d0 := later hb (hrd k hlt)
      have HC := hid (later hb hc)
      have HD := hid (findV_drop V l k hlt)
      clear hrd
      go_wp2_with fail
      refine (by1_any V _ c _ HC.out).mono ?_
      rintro e w1 ⟨rfl, hb1⟩
      obtain ⟨q, hq⟩ : ∃ q, q = outV V l[k] := ⟨_, rfl⟩
      rw [← hq]
      have HQ := hid hq
      clear hq
      cases q
      · go_wp2_with fail
        go_roundw
        case rel => exact ⟨k + 1, hlt, by go_num, hid (by rw [HF.out, HD.out, ← HQ.out]; simp), ext_trans hb hb1⟩
        case measure => simp [intOf]; omega
      · go_wp2_with fail
        go_ret
        exact ⟨ret_int (by rw [HF.out, HD.out, ← HQ.out]; simp), ext_trans hb hb1⟩
    · obtain rfl : k = l.length := by omega
      go_wp2_with fail
      go_ret
      exact ⟨ret_int (by rw [HF.out]; simp [findV]), hb⟩
set_option maxRecDepth 100000 in
set_option maxHeartbeats 4000000 in
theorem containsV_any (l : List Int) (V : Int) (c : Nat) (w : World) (sv : Value) (hr : RdI w l sv) (hc : w.cell? ⟨c, 1, none⟩ = some (.int .i64 V)) :
    Calls Tryd.prog 24 #[sv, .func (.func 25) #[] #[.pointer (some ⟨c, 0, none⟩)]] w fun e' w' => e' = .returned (.bool (l.any (outV V))) ∧ Below w.heap.size w w' := by
  have HI := hid (indexV_any l V c w sv hr hc)
  have HF := hid (findV_any V l 0)
  generalize findV V l 0 = i at HI HF
  obtain ⟨q, hq⟩ : ∃ q, q = decide ((0 : Int) ≤ i) := ⟨_, rfl⟩
  have hqi : decide ((0 : Int) ≤ i) = q := hq.symm
  rw [hqi] at HF
  rw [← HF.out]
  obtain ⟨a, cap, rfl⟩ := hr.shape
  clear hr hq
  go_enter Tryd.func24, Tryd.ntmps24
  go_wp2_with fail
  refine HI.out.mono ?_
  rintro e' w1 ⟨rfl, hb1⟩
  cases q
  all_goals
    go_wp2_with fail
    go_ret
    exact ⟨rfl, hb1⟩
set_option maxRecDepth 100000 in
set_option maxHeartbeats 4000000 in
theorem bsearch_neg (l : List Nat) (i : Int) (hi : i < 0) (w : World) (v : Value) (hr : RdNats w l v) (hl : l.length ≤ 1000000000) :
    Calls Tryd.prog 20 #[v, .int .i64 i] w fun e w' => e = .returned (.tuple #[.int .i64 0, .bool false]) ∧ w' = w := by
  obtain ⟨a, cap, rfl, hx⟩ := hr
  have HX := hid hx; clear hx
  have HN : ∀ (x : Int) (w : World), Calls Tryd.prog 32 #[.int .i64 x] w fun e w' => e = .returned (.bool false) ∧ w' = w := by
    intro x w
    go_enter Tryd.func32, Tryd.ntmps32
    go_wp2_with fail
    go_ret
    exact ⟨by simp, rfl⟩
  have HN' := hid HN
  clear HN
  have HN := HN'
  clear HN'
  have HL := hid hl; clear hl
  have HNEG := hid hi
  clear hi
  go_enter Tryd.func20, Tryd.ntmps20
  go_wp2_with fail
  go_loopw [7, 8] (fun p q wr => ∃ a b : Nat, p = .int .i64 (a : Int) ∧ q = .int .i64 (b : Int) ∧ Hid (a = 0 ∧ b ≤ l.length) ∧ wr = w) (fun p q _ => (intOf q).toNat - (intOf p).toNat)
  case atStart => exact ⟨0, l.length, rfl, rfl, hid ⟨rfl, Nat.le_refl _⟩, rfl⟩
  case round =>
    obtain ⟨p, q, rfl, rfl, HI, rfl⟩ := hrel
    by_cases hlt : p < q
    · obtain ⟨m, hmE⟩ : ∃ m, m = (p + q) / 2 := ⟨_, rfl⟩
      have hm : m < l.length := by have := HI.out; omega
      obtain ⟨b, o, rfl, hc⟩ := HX.out (by intro h; subst h; simp at hm)
      have c0 := hc _ hm
      have j1 : decide ((p : Int) < (q : Int)) = true := by rw [decide_eq_true_iff]; omega
      have j2 : IntKind.i64.wrap ((p : Int) + (q : Int)) = ((p + q : Nat) : Int) := by have := HI.out; have := HL.out; rw [IntWalk.i64_in _ (by omega)]; omega
      have hbl := lt_of_cell c0
      have k1 : decide ((m : Int) < (l.length : Int)) = true := by rw [decide_eq_true_iff]; omega
      have k2 : (0 : Int) ≤ (m : Int) := by omega
      have k3 : IntKind.i64.wrap ((m : Int) + 1) = ((m + 1 : Nat) : Int) := by have := HL.out; rw [IntWalk.i64_in _ (by omega)]; omega
      have j5 : wrap64 (IntKind.u64.wrap ((p : Int) + (q : Int)) / 2) = (m : Int) := by
        have h1 := HI.out
        have h2 := HL.out
        have e1 : IntKind.u64.wrap ((p : Int) + (q : Int)) = (p : Int) + (q : Int) := by simp [IntKind.wrap, IntKind.signed, IntKind.bits]; omega
        rw [e1]
        have e2 : ((p : Int) + (q : Int)) / 2 = (m : Int) := by omega
        rw [e2]
        unfold wrap64
        omega
      have HM := hid hmE
      clear hc hmE
      go_wp2_with fail
      refine (less_any _ _ _).mono ?_
      rintro e' w1 ⟨rfl, rfl⟩
      have hc' : decide ((l[m] : Int) < i) = false := by have := HNEG.out; rw [decide_eq_false_iff_not]; omega
      rw [hc']
      clear hc'
      go_wp2_with fail
      go_roundw
      case rel =>
        refine ⟨p, m, rfl, rfl, hid ⟨HI.out.1, by have := HI.out; omega⟩, (by first | trivial | rfl)⟩
      case measure =>
        have := HM.out
        simp [intOf]; omega
    · obtain rfl : p = 0 := by have := HI.out; omega
      have hq0 : q = 0 := by omega
      subst hq0
      have j1 : decide (((0 : Nat) : Int) < ((0 : Nat) : Int)) = false := by rw [decide_eq_false_iff_not]; omega
      by_cases hpl : 0 < l.length
      · obtain ⟨b, o, rfl, hc⟩ := HX.out (by intro h; subst h; simp at hpl)
        have c0 := hc _ hpl
        rw [Nat.add_zero] at c0
        have hbl := lt_of_cell c0
        have k1 : decide ((0 : Int) < (l.length : Int)) = true := by rw [decide_eq_true_iff]; omega
        have e1 : ((l[0] : Int) == i) = false := by have := HNEG.out; rw [beq_eq_false_iff_ne]; omega
        clear hc
        go_wp2_with fail
        refine (HN.out _ _).mono ?_
        rintro e' w1 ⟨rfl, rfl⟩
        go_wp2_with fail
        go_ret2
        exact ⟨rfl, rfl⟩
      · have k1 : decide ((0 : Int) < (l.length : Int)) = false := by rw [decide_eq_false_iff_not]; omega
        go_wp2_with fail
        go_ret2
        exact ⟨rfl, rfl⟩

end Go.Proofs.YtnmbacleaijhmaaDoor
/-
  From the attempts that history.Of tells to the attempts that slice.Kept reads; a row of events of one's own.
-/
namespace Go.Proofs.YtnmbacleaijhmaaDoor
set_option linter.unusedVariables false
set_option linter.unusedSimpArgs false
set_option linter.unusedVariables false
open Go Go.RowKit
/-- All numbers of an attempt fit. -/
def AttN (a : Att) : Prop := AttB a ∧ (∀ p ∈ a.reads, B64 p.1 ∧ B64 p.2) ∧ (∀ p ∈ a.writes, B64 p.1 ∧ B64 p.2)
theorem b64z : B64 0 := by unfold B64; omega
theorem attN_zero : AttN Att.zero := ⟨⟨b64z, b64z, b64z, b64z, b64z, b64z⟩, fun p hp => (by cases hp), fun p hp => (by cases hp)⟩
theorem attN_turn {a : Att} {o i : Int} {e : Ev} (h : AttN a) (he : EvOk e) (hi : B64 i) : AttN (turnA a o e i) := by
  obtain ⟨⟨h1, h2, h3, h4, h5, h6⟩, hr, hw⟩ := h
  obtain ⟨he0, he1, he2, he3, he4, he5, he6⟩ := he
  have hto : ∀ q : Int, B64 (if q = 0 then i else a.to_) := fun q => by split <;> assumption
  unfold turnA
  split
  · refine ⟨⟨h1, h2, h3, h4, h5, h6⟩, fun p hp => ?_, hw⟩
    rcases List.mem_append.1 hp with hp | hp
    · exact hr p hp
    · rw [List.mem_singleton] at hp; subst hp; exact ⟨he3, he5⟩
  · split
    · refine ⟨⟨h1, h2, h3, h4, h5, h6⟩, hr, fun p hp => ?_⟩
      rcases List.mem_append.1 hp with hp | hp
      · exact hw p hp
      · rw [List.mem_singleton] at hp; subst hp; exact ⟨he3, he5⟩
    · split
      · exact ⟨⟨h1, h2, h3, hto o, h5, he4⟩, hr, hw⟩
      · split
        · exact ⟨⟨h1, h2, h3, hto (o - 1), h5, h6⟩, hr, hw⟩
        · split
          · exact ⟨⟨h1, h2, h3, hto o, h5, h6⟩, hr, hw⟩
          · split
            · exact ⟨⟨h1, h2, h3, hi, h5, h6⟩, hr, hw⟩
            · exact ⟨⟨h1, h2, h3, h4, h5, h6⟩, hr, hw⟩
theorem attN_hist : ∀ (l : List Ev) (h : HS) (i : Int), (∀ q ∈ h.out, AttN q) → (∀ e ∈ l, EvOk e) → 0 ≤ i → i + (l.length : Int) ≤ 9223372036854775807 → ∀ q ∈ (histF h i l).out, AttN q
  | [], h, i, hn, _, _, _, q, hq => hn q hq
  | e :: l, h, i, hn, he, h0, hi, q, hq => by
    have hc : ((e :: l).length : Int) = (l.length : Int) + 1 := by simp
    have hi64 : B64 i := by unfold B64; omega
    have heo := he e (List.mem_cons_self ..)
    refine attN_hist l (stepH h i e) (i + 1) (fun q hq => ?_) (fun x hx => he x (List.mem_cons_of_mem _ hx)) (by omega) (by omega) q hq
    unfold stepH at hq
    split at hq
    · rcases List.mem_append.1 hq with hq | hq
      · exact hn q hq
      · rw [List.mem_singleton] at hq; subst hq
        obtain ⟨he0, he1, he2, he3, he4, he5, he6⟩ := heo
        exact ⟨⟨he1, he2, hi64, by show B64 (-1); unfold B64; omega, he4, b64z⟩, fun p hp => (by cases hp), fun p hp => (by cases hp)⟩
    · split at hq
      · exact hn q hq
      · rcases List.mem_or_eq_of_mem_set hq with hq | rfl
        · exact hn q hq
        · refine attN_turn ?_ heo hi64
          rw [List.getD_eq_getElem?_getD]
          cases hg : h.out[h.last e.th]? with
          | none => exact attN_zero
          | some a => exact hn a (List.mem_of_getElem? hg)
theorem attN_all {l : List Ev} (he : ∀ e ∈ l, EvOk e) (hl : l.length ≤ 1048576) : ∀ q ∈ (histT l).out, AttN q :=
  attN_hist l newH 0 (fun q hq => by cases hq) he (Int.le_refl _) (by omega)
theorem hist_small {l : List Ev} : (histT l).out.length ≤ l.length ∧ ∀ q ∈ (histT l).out, q.reads.length ≤ l.length ∧ q.writes.length ≤ l.length := by
  refine ⟨?_, fun q hq => ?_⟩
  · have := hist_len l newH 0
    have h0 : newH.out.length = 0 := rfl
    show (histF newH 0 l).out.length ≤ l.length
    omega
  · have := hist_pairs l newH 0 0 (fun q hq => by cases hq) q hq
    omega
theorem pairsL_at : ∀ {l : List (Int × Int)} {i : Nat} (h : i < l.length), (pairsL l)[i * 2]? = some (.int .i64 l[i].1) ∧ (pairsL l)[i * 2 + 1]? = some (.int .i64 l[i].2)
  | p :: l, 0, _ => ⟨rfl, rfl⟩
  | p :: l, i + 1, h => by
    have := pairsL_at (l := l) (i := i) (by simpa using h)
    have e : pairsL (p :: l) = [.int .i64 p.1, .int .i64 p.2] ++ pairsL l := by unfold pairsL; rw [List.flatMap_cons]
    rw [e, List.getElem?_append_right (by simp; omega), List.getElem?_append_right (by simp; omega)]
    have e1 : (i + 1) * 2 - [Value.int .i64 p.1, Value.int .i64 p.2].length = i * 2 := by simp; omega
    have e2 : (i + 1) * 2 + 1 - [Value.int .i64 p.1, Value.int .i64 p.2].length = i * 2 + 1 := by simp; omega
    rw [e1, e2]; exact this
theorem rdPairs_of_own {W : World} {n₀ : Nat} {v : Value} {l : List (Int × Int)} (h : W.ownsRow n₀ 67 2 v l.length (pairsL l)) (hb : ∀ p ∈ l, B64 p.1 ∧ B64 p.2) (hl : l.length ≤ 1048576) : RdPairs W l v := by
  have h0 := h
  rcases h.2 with ⟨rfl, hn⟩ | ⟨g, cap, cur, rfl, hb', hg, h1, h2, h3, h4⟩
  · exact ⟨none, 0, by rw [hn], by omega, hb, fun hne => absurd (List.eq_nil_of_length_eq_zero hn) hne⟩
  · refine ⟨_, cap, rfl, by omega, hb, fun _ => ⟨g, 0, rfl, fun k hk => ?_⟩⟩
    obtain ⟨e1, e2⟩ := pairsL_at hk
    rw [Nat.zero_add]
    exact ⟨(h0.cellAt (k * 2) (by omega)).trans e1, (h0.cellAt (k * 2 + 1) (by omega)).trans e2⟩
/-- The attempts that Of has told may be read by Kept. -/
theorem AttsAt.rd {W : World} {n₀ : Nat} {v : Value} {L : List Att} (h : AttsAt W n₀ v L) (hN : ∀ q ∈ L, AttN q) (hl : L.length ≤ 1048576) (hp : ∀ q ∈ L, q.reads.length ≤ 1048576 ∧ q.writes.length ≤ 1048576) : RdAtts W L v := by
  obtain ⟨H, h1, h2⟩ := h
  have h0 := h1
  rcases h1.2 with ⟨rfl, hn⟩ | ⟨g, cap, cur, rfl, hb', hg, q1, q2, q3, q4⟩
  · exact ⟨none, 0, by rw [hn], by omega, fun hne => absurd (List.eq_nil_of_length_eq_zero hn) hne⟩
  · refine ⟨_, cap, rfl, by omega, fun _ => ⟨g, 0, rfl, fun k hk => ⟨H k false, H k true, ?_⟩⟩⟩
    have hm := List.getElem_mem hk
    obtain ⟨n1, n2, n3⟩ := hN _ hm
    obtain ⟨m1, m2⟩ := hp _ hm
    have eD : L.getD k Att.zero = L[k] := by rw [List.getD_eq_getElem?_getD, List.getElem?_eq_getElem hk]; rfl
    have hr := h2 k false hk
    have hw := h2 k true hk
    rw [eD] at hr hw
    have hc : ∀ j, j < 9 → W.cell? ⟨g, 0 + k * 9 + j, none⟩ = (attL L[k] (H k false) (H k true))[j]? := fun j hj => by
      rw [Nat.zero_add, h0.cellAt (k * 9 + j) (by omega), attsL_get hk hj, eD]
    refine ⟨n1, ?_, hc 1 (by omega), hc 2 (by omega), hc 3 (by omega), hc 4 (by omega), hc 5 (by omega), hc 6 (by omega), hc 7 (by omega), hc 8 (by omega), rdPairs_of_own hr n2 m1, rdPairs_of_own hw n3 m2⟩
    have := hc 0 (by omega)
    rwa [Nat.add_zero] at this
theorem flat_at (tw : List Ev) (k : Nat) (h : k < tw.length) (j : Nat) (v : Value) (hv : (evL tw[k])[j]? = some v) : (tw.flatMap evL)[k * 7 + j]? = some v := by
  induction tw generalizing k with
  | nil => simp at h
  | cons e r ih =>
    have hlen : (evL e).length = 7 := rfl
    rw [List.flatMap_cons]
    cases k with
    | zero =>
      have hj : j < 7 := by
        rcases Nat.lt_or_ge j 7 with h | h
        · exact h
        · simp only [List.getElem_cons_zero] at hv
          rw [List.getElem?_eq_none (by rw [hlen]; exact h)] at hv; cases hv
      rw [List.getElem?_append_left (by rw [hlen]; omega)]
      simpa using hv
    | succ k =>
      rw [List.getElem?_append_right (by rw [hlen]; omega), hlen]
      have : (k + 1) * 7 + j - 7 = k * 7 + j := by omega
      rw [this]
      exact ih k (by simpa using h) (by simpa using hv)
/-- A row of one's own, as events. -/
theorem evs_of_own {W : World} {base : Nat} {v : Value} {l : List Ev} (h : W.ownsRow base 32 7 v l.length (l.flatMap evL)) (ho : ∀ e ∈ l, EvOk e) : ∃ a c, v = .slice a l.length c ∧ EvsAt W a l := by
  have h0 := h
  rcases h.2 with ⟨rfl, hn⟩ | ⟨g, cap, cur, rfl, hb', hg, q1, q2, q3, q4⟩
  · exact ⟨none, 0, by rw [hn], ho, fun hne => absurd (List.eq_nil_of_length_eq_zero hn) hne⟩
  · refine ⟨_, cap, rfl, ho, fun _ => ⟨g, 0, rfl, fun k hk j u hu => ?_⟩⟩
    have hj : j < 7 := (List.getElem?_eq_some_iff.1 hu).1
    rw [Nat.zero_add, h0.cellAt (k * 7 + j) (by omega)]
    exact flat_at l k hk j u hu
theorem byF_ok {l : List Ev} {K : List Nat} {k : Nat} (h : ∀ e ∈ l, EvOk e) : ∀ e ∈ byF l K k, EvOk e := by
  intro e he
  obtain ⟨i, hi, hie⟩ := List.mem_filterMap.1 he
  split at hie
  · exact h e (List.mem_of_getElem? hie)
  · cases hie
theorem byF_len (l : List Ev) (K : List Nat) : ∀ k, (byF l K k).length ≤ k := by
  intro k
  unfold byF
  have := List.length_filterMap_le (fun i => if inK K (ofI l i) = true then l[i]? else none) (List.range k)
  rw [List.length_range] at this
  exact this
end Go.Proofs.YtnmbacleaijhmaaDoor
/-
  Walk: slice.By where it refuses.
-/
namespace Go.Proofs.YtnmbacleaijhmaaDoor
set_option linter.unusedVariables false
set_option linter.unusedSimpArgs false
set_option linter.unusedVariables false
open Go Go.RowKit
/-- What By tells. -/
def byCode (T V S : Int) (l : List Ev) (vars : List Int) : Int := if (checkT T V S l).2 ≠ 0 then (checkT T V S l).2 else if vars.any (outV V) = true then 1 else 0
def byEvs (T V S : Int) (l : List Ev) (vars : List Int) : List Ev := if byCode T V S l vars = 0 then byF l (keptL (histT l).out vars) l.length else []
def ByP (T V S : Int) (l : List Ev) (vars : List Int) (w : World) (e : Ending) (w' : World) : Prop :=
  ∃ T' V' S' v, e = .returned (.tuple #[.agg #[.int .i64 T', .int .i64 V', .int .i64 S', v], .int .i64 (byCode T V S l vars)]) ∧ Below w.heap.size w w' ∧
    w'.ownsRow w.heap.size 32 7 v (byEvs T V S l vars).length ((byEvs T V S l vars).flatMap evL) ∧ (byCode T V S l vars = 0 → T' = T ∧ V' = V ∧ S' = S)
theorem tset4 {w : World} {b : Nat} {c0 c1 c2 c3 : Value} {t : TypeId} (h : Blk w b #[c0, c1, c2, c3] t) (v0 v1 v2 v3 : Value) : Blk ((((w.setCell ⟨b, 0, none⟩ v0).setCell ⟨b, 1, none⟩ v1).setCell ⟨b, 2, none⟩ v2).setCell ⟨b, 3, none⟩ v3) b #[v0, v1, v2, v3] t := by
  have := (((h.set 0 v0).set 1 v1).set 2 v2).set 3 v3
  simpa using this
theorem tbelow4 {B : Nat} {a w : World} {b : Nat} (h : Below B a w) (hb : B ≤ b) (v0 v1 v2 v3 : Value) : Below B a ((((w.setCell ⟨b, 0, none⟩ v0).setCell ⟨b, 1, none⟩ v1).setCell ⟨b, 2, none⟩ v2).setCell ⟨b, 3, none⟩ v3) :=
  (((h.setCell (p := ⟨b, 0, none⟩) hb v0).setCell (p := ⟨b, 1, none⟩) hb v1).setCell (p := ⟨b, 2, none⟩) hb v2).setCell (p := ⟨b, 3, none⟩) hb v3
set_option maxRecDepth 100000 in
set_option maxHeartbeats 4000000 in
theorem by_no (T V S : Int) (a : Option Addr) (l : List Ev) (cap : Nat) (vars : List Int) (vv : Value) (w : World) (hc : (checkT T V S l).2 ≠ 0) (hV : RdI w vars vv) (hE : EvsAt w a l) (hK : KindsAt w) (hT : TabOk w) :
    Calls Tryd.prog 12 #[trA T V S a l.length cap, vv] w (ByP T V S l vars w) := by
  have HC := hid (fun W (hW : Below w.heap.size w W) => of_any T V S a l cap W (hE.below hW) (hK.below hW) (hT.below hW))
  have HP : ∀ W', Below w.heap.size w W' → ByP T V S l vars w (.returned (.tuple #[.agg #[.int .i64 0, .int .i64 0, .int .i64 0, .slice none 0 0], .int .i64 (checkT T V S l).2])) W' := fun W' hb => by
    have e : byCode T V S l vars = (checkT T V S l).2 := if_pos hc
    unfold ByP byEvs
    rw [e, if_neg hc]
    exact ⟨0, 0, 0, _, rfl, hb, World.ownsRow_nil _ _ _ _, fun h => absurd h hc⟩
  have HP := hid HP
  obtain ⟨Q, hQ⟩ : ∃ Q, Q = ByP T V S l vars w := ⟨_, rfl⟩
  rw [← hQ] at HP ⊢
  unfold OfP at HC
  generalize (checkT T V S l).2 = q at HC HP hc
  have g1 : (q == 0) = false := beq_eq_false_iff_ne.2 hc
  have g2 : (q != 0) = true := bne_iff_ne.2 hc
  obtain ⟨av, cv, rfl, -⟩ := hV
  clear hK hT hE hc hQ
  dsimp only [trA] at HC ⊢
  have HB : Hid (Below w.heap.size w ((w.alloc (.cells #[.int .i64 T, .int .i64 V, .int .i64 S, .slice a l.length cap] 36)).alloc (.cells #[.int .i64 0, .int .i64 0, .int .i64 0, .slice none 0 0] 36))) := hid (ext_alloc (ext_alloc (ext_refl _) _) _)
  have HZ := hid (Blk.new' (w.alloc (.cells #[.int .i64 T, .int .i64 V, .int .i64 S, .slice a l.length cap] 36)) #[.int .i64 0, .int .i64 0, .int .i64 0, .slice none 0 0] 36 (World.size_alloc _ _).symm)
  go_enter Tryd.func12, Tryd.ntmps12
  go_wp2_with fail
  refine (HC.out _ HB.out).mono ?_
  rintro e' w1 ⟨vo, rfl, hb1, hat⟩
  have hz := HZ.out.below hb1
  have HZ1 := hid hz
  have f0 := hz.free 0
  have f1 := hz.free 1
  have f2 := hz.free 2
  have f3 := hz.free 3
  have c0 := hz.cell 0 (v := .int .i64 0) rfl
  have c1 := hz.cell 1 (v := .int .i64 0) rfl
  have c2 := hz.cell 2 (v := .int .i64 0) rfl
  have c3 := hz.cell 3 (v := .slice none 0 0) rfl
  have HB1 := hid (ext_trans HB.out hb1)
  clear hb1 hat hz
  go_wp2_with fail
  have hF := tset4 HZ1.out (.int .i64 0) (.int .i64 0) (.int .i64 0) (.slice none 0 0)
  have hBf := tbelow4 HB1.out (Nat.le_succ _) (.int .i64 0) (.int .i64 0) (.int .i64 0) (.slice none 0 0)
  obtain ⟨Wf, hWf⟩ : ∃ Wf, Wf = (((w1.setCell ⟨w.heap.size + 1, 0, none⟩ (.int .i64 0)).setCell ⟨w.heap.size + 1, 1, none⟩ (.int .i64 0)).setCell ⟨w.heap.size + 1, 2, none⟩ (.int .i64 0)).setCell ⟨w.heap.size + 1, 3, none⟩ (.slice none 0 0) := ⟨_, rfl⟩
  rw [← hWf] at hF hBf ⊢
  have q0 := hF.cell 0 (v := .int .i64 0) rfl
  have q1 := hF.cell 1 (v := .int .i64 0) rfl
  have q2 := hF.cell 2 (v := .int .i64 0) rfl
  have q3 := hF.cell 3 (v := .slice none 0 0) rfl
  exact bodyPost_ret (v := .tuple #[.agg #[.int .i64 0, .int .i64 0, .int .i64 0, .slice none 0 0], .int .i64 q]) (by simp [results, Tryd.results12, go_sem, q0, q1, q2, q3]) rfl (HP.out _ hBf)
end Go.Proofs.YtnmbacleaijhmaaDoor
/-
  Walk: slice.By.
-/
namespace Go.Proofs.YtnmbacleaijhmaaDoor
set_option linter.unusedVariables false
set_option linter.unusedSimpArgs false
set_option linter.unusedVariables false
open Go Go.RowKit
theorem infoEvB : (Tryd.prog.info? 32).map (fun i => (i.zero, i.size, i.bytes)) = some (some (.agg #[.int .u8 0, .int .i64 0, .int .i64 0, .int .i64 0, .int .i64 0, .int .i64 0, .int .u8 0]), 7, 56) := by kernel_rfl
theorem blk_at' {w : World} {g : Nat} {cs : List Value} {t : TypeId} (h : Blk w g cs.toArray t) : ∀ (j : Nat) (u : Value), cs[j]? = some u → w.cell? ((⟨g, 0, none⟩ : Addr).add j) = some u := by
  intro j u hu
  have := h.cell j (by simpa using hu)
  unfold Addr.add
  split
  · rename_i h; subst h; exact this
  · simpa using this
theorem own_setB {W : World} {base : Nat} {e : TypeId} {size : Nat} {v : Value} {n : Nat} {xs : List Value} {b o : Nat} {x : Value} (h : W.ownsRow base e size v n xs) (hn : ∀ g, v.ownBlock = some g → g ≠ b) : (W.setCell ⟨b, o, none⟩ x).ownsRow base e size v n xs := by
  refine h.kept (row := some b) ⟨rfl, rfl, rfl, by simp [World.setCell], fun j hj hne => Below.heap_setCell _ _ _ _ (fun e => hne (by rw [e]))⟩ ?_
  cases hv : v.ownBlock with
  | none => exact Or.inl rfl
  | some g => exact Or.inr fun e => hn g hv (Option.some.inj e)
theorem own_sl' {W : World} {n₀ e size n : Nat} {v : Value} {xs : List Value} (h : W.ownsRow n₀ e size v n xs) : ∃ a c, v = .slice a n c := by
  rcases h.2 with ⟨rfl, h0⟩ | ⟨g, cap, cur, rfl, _⟩
  · exact ⟨none, 0, by rw [h0]⟩
  · exact ⟨_, _, rfl⟩
/-- The worlds of By's loop; W4: where it begins. -/
structure ByI (W4 wr : World) (T V S : Int) (l : List Ev) (K : List Nat) (k : Nat) (cur : Value) : Prop where
  low : Below W4.heap.size W4 wr
  u : Blk wr W4.heap.size #[.int .i64 T, .int .i64 V, .int .i64 S, cur] 36
  own : wr.ownsRow (W4.heap.size + 1) 32 7 cur (byF l K k).length ((byF l K k).flatMap evL)
variable {W4 wr W1 W2 : World} {T V S : Int} {l : List Ev} {K : List Nat} {k : Nat} {cur : Value}
theorem byF_zero (l : List Ev) (K : List Nat) : byF l K 0 = [] := rfl
theorem ByI.begin : ByI W4 (W4.alloc (.cells #[.int .i64 T, .int .i64 V, .int .i64 S, .slice none 0 0] 36)) T V S l K 0 (.slice none 0 0) :=
  ⟨ext_alloc (ext_refl _) _, Blk.new _ _ _, World.ownsRow_nil _ _ _ _⟩
theorem ByI.skip (H : ByI W4 wr T V S l K k cur) (hk : k < l.length) (hq : inK K (ofI l k) = false) (hb : Below wr.heap.size wr W1) : ByI W4 W1 T V S l K (k + 1) cur := by
  have e : byF l K (k + 1) = byF l K k := by rw [byF_step l K k hk, hq]; simp
  exact ⟨ext_trans H.low hb, H.u.below hb, by rw [e]; exact own_old H.own hb⟩
theorem ByI.add {e : Ev} {v : Value} (H : ByI W4 wr T V S l K k cur) (hk : k < l.length) (he : l[k] = e) (hq : inK K (ofI l k) = true) (hb : Below wr.heap.size wr W1) (ho : W2.ownsRow (W4.heap.size + 1) 32 7 v ((byF l K k).length + 1) ((byF l K k).flatMap evL ++ evL e)) (hg : W1.grownBy W2 cur.ownBlock) :
    ByI W4 (W2.setCell ⟨W4.heap.size, 3, none⟩ v) T V S l K (k + 1) v := by
  have e : byF l K (k + 1) = byF l K k ++ [e] := by rw [byF_step l K k hk, hq, if_pos rfl, he]
  have hown1 := own_old H.own hb
  have hu1 := H.u.below hb
  have hlow1 := ext_trans H.low hb
  refine ⟨?_, ?_, ?_⟩
  · exact (hlow1.grown hg hlow1.size (fun q hq => Nat.le_of_succ_le (hown1.lt q hq).1)).setCell (p := ⟨W4.heap.size, 3, none⟩) (Nat.le_refl _) _
  · have := (hu1.grown hg (blk_ne hown1 hu1 (by decide))).set 3 v
    simpa using this
  · rw [e]
    refine own_setB ?_ (fun g hg' => by have := (ho.lt g hg').1; omega)
    rw [List.length_append, List.flatMap_append]
    simpa using ho
theorem bs_any (K : List Nat) (hs : SortedN K) (hl : K.length ≤ 1000000000) (i : Int) (w : World) (v : Value) (hr : RdNats w K v) :
    Calls Tryd.prog 20 #[v, .int .i64 i] w fun e w' => ∃ p : Int, e = .returned (.tuple #[.int .i64 p, .bool (inK K i)]) ∧ w' = w := by
  by_cases hi : 0 ≤ i
  · obtain ⟨m, rfl⟩ : ∃ m : Nat, i = (m : Int) := ⟨i.toNat, by omega⟩
    refine (bsearch_any K hs m w v hr hl).mono ?_
    rintro e w' ⟨rfl, rfl⟩
    exact ⟨(placeN K m : Int), by unfold inK; simp, rfl⟩
  · refine (bsearch_neg K i (by omega) w v hr hl).mono ?_
    rintro e w' ⟨rfl, rfl⟩
    exact ⟨0, by unfold inK; rw [decide_eq_false hi]; rfl, rfl⟩
theorem big_tr {l : List Ev} {vars : List Int} (hl : l.length ≤ 600) (hv : vars.length ≤ 50) : (roots (histT l).out vars).length + (histT l).out.length * askN (histT l).out ≤ 1000000000000 := by
  obtain ⟨h1, h2⟩ := hist_small (l := l)
  have e1 := roots_len (histT l).out vars
  have e2 : askN (histT l).out ≤ 600 + (histT l).out.length := askN_le fun a ha => by have := h2 a ha; omega
  have : (histT l).out.length * askN (histT l).out ≤ 600 * 1200 := Nat.mul_le_mul (by omega) (by omega)
  omega
theorem keptH_len {L : List Att} {vars : List Int} : (keptL L vars).length ≤ L.length := sorted_len (keptL_is L vars).1 (keptL_is L vars).lt
set_option maxRecDepth 100000 in
set_option maxHeartbeats 8000000 in
theorem by_yes (T V S : Int) (a : Option Addr) (l : List Ev) (cap : Nat) (vars : List Int) (vv : Value) (w : World) (hc : (checkT T V S l).2 = 0) (hl : l.length ≤ 600) (hvl : vars.length ≤ 50) (hV : RdI w vars vv) (hE : EvsAt w a l) (hK : KindsAt w) (hT : TabOk w) :
    Calls Tryd.prog 12 #[trA T V S a l.length cap, vv] w (ByP T V S l vars w) := by
  have HC := hid (fun W (hW : Below w.heap.size w W) => of_any T V S a l cap W (hE.below hW) (hK.below hW) (hT.below hW))
  have HS := hid (fun W (hW : Below w.heap.size w W) => split_any T V S a l cap W (hE.below hW) (hK.below hW) (hT.below hW))
  unfold OfP at HC
  unfold SplitP at HS
  simp only [hc, if_true] at HC HS
  have hbig := big_tr hl hvl
  obtain ⟨hs1, hs2⟩ := hist_small (l := l)
  have hN := attN_all hE.1 (by omega)
  have HRD := hid (fun (W : World) (n₀ : Nat) (v : Value) (h : AttsAt W n₀ v (histT l).out) => h.rd hN (by omega) (fun q hq => by have := hs2 q hq; omega))
  have HKP := hid (fun w' vl vv h1 h2 => kept_any (histT l).out vars w' vl vv h1 h2 hbig (by omega))
  have hkl : (keptL (histT l).out vars).length ≤ 600 := by have := keptH_len (L := (histT l).out) (vars := vars); omega
  have hks := (keptL_is (histT l).out vars).1
  have hof := ofT_eq l
  have HP : ∀ e w', (∃ v, e = .returned (.tuple #[.agg #[.int .i64 T, .int .i64 V, .int .i64 S, v], .int .i64 0]) ∧ vars.any (outV V) = false ∧ Below w.heap.size w w' ∧ w'.ownsRow w.heap.size 32 7 v (byF l (keptL (histT l).out vars) l.length).length ((byF l (keptL (histT l).out vars) l.length).flatMap evL)) → ByP T V S l vars w e w' := by
    rintro e w' ⟨v, rfl, hq, hb, ho⟩
    have e1 : byCode T V S l vars = 0 := by unfold byCode; rw [hc, if_neg (by decide), hq]; rfl
    unfold ByP byEvs
    rw [e1, if_pos rfl]
    exact ⟨T, V, S, v, rfl, hb, ho, fun _ => ⟨rfl, rfl, rfl⟩⟩
  have HPA : ∀ w', vars.any (outV V) = true → Below w.heap.size w w' → ByP T V S l vars w (.returned (.tuple #[.agg #[.int .i64 0, .int .i64 0, .int .i64 0, .slice none 0 0], .int .i64 1])) w' := by
    intro w' hq hb
    have e1 : byCode T V S l vars = 1 := by unfold byCode; rw [hc, if_neg (by decide), hq]; rfl
    unfold ByP byEvs
    rw [e1, if_neg (by decide)]
    exact ⟨0, 0, 0, _, rfl, hb, World.ownsRow_nil _ _ _ _, fun h => by cases h⟩
  have HP := hid HP
  have HPA := hid HPA
  generalize keptL (histT l).out vars = K at *
  generalize (histT l).out = L at *
  obtain ⟨Q, hQ⟩ : ∃ Q, Q = ByP T V S l vars w := ⟨_, rfl⟩
  rw [← hQ] at HP HPA ⊢
  have HV := hid hV
  have HE := hid hE
  have HEB := hid (evs_lt hE)
  have HKS := hid hks
  have HKL := hid hkl
  have HL := hid hl
  have HOF := hid hof
  obtain ⟨av, cv, rfl, -⟩ := hV
  obtain ⟨ti, hti, hz0, hz1, hz2⟩ := info_parts infoEvB
  clear hK hT hE hc hQ hbig hs1 hs2 hN hks hkl hof hl hvl
  dsimp only [trA] at HC HS ⊢
  have HB : Hid (Below w.heap.size w ((w.alloc (.cells #[.int .i64 T, .int .i64 V, .int .i64 S, .slice a l.length cap] 36)).alloc (.cells #[.int .i64 0, .int .i64 0, .int .i64 0, .slice none 0 0] 36))) := hid (ext_alloc (ext_alloc (ext_refl _) _) _)
  have HX := hid ((Blk.new w #[.int .i64 T, .int .i64 V, .int .i64 S, .slice a l.length cap] 36).alloc (.cells #[.int .i64 0, .int .i64 0, .int .i64 0, .slice none 0 0] 36))
  have HZ := hid (Blk.new' (w.alloc (.cells #[.int .i64 T, .int .i64 V, .int .i64 S, .slice a l.length cap] 36)) #[.int .i64 0, .int .i64 0, .int .i64 0, .slice none 0 0] 36 (World.size_alloc _ _).symm)
  go_enter Tryd.func12, Tryd.ntmps12
  go_wp2_with fail
  refine (HC.out _ HB.out).mono ?_
  rintro e' w1 ⟨vo, rfl, hb1, hat⟩
  have HX1 := hid (HX.out.below hb1)
  have HZ1 := hid (HZ.out.below hb1)
  have HAT := hid (HRD.out _ _ _ hat)
  have HB1 := hid (ext_trans HB.out hb1)
  have d0 := HX1.out.cell 0 (v := .int .i64 T) rfl
  have d1 := HX1.out.cell 1 (v := .int .i64 V) rfl
  have d2 := HX1.out.cell 2 (v := .int .i64 S) rfl
  have d3 := HX1.out.cell 3 (v := .slice a l.length cap) rfl
  clear hb1 hat HX HZ HB
  go_wp2_with fail
  refine (HS.out _ HB1.out).mono ?_
  rintro e' w2 ⟨vf, rfl, hb2, hof⟩
  have HX2 := hid (HX1.out.below hb2)
  have HZ2 := hid (HZ1.out.below hb2)
  have HAT2 := hid (HAT.out.below hb2)
  have HB2 := hid (ext_trans HB1.out hb2)
  have HOW2 := hid hof
  clear hb2 hof HX1 HZ1 HAT HB1 d0 d1 d2 d3
  go_wp2_with fail
  refine (containsV_any vars V w.heap.size w2 _ (HV.out.below HB2.out) (HX2.out.cell 1 rfl)).mono ?_
  rintro e' w3 ⟨rfl, hb3⟩
  have HX3 := hid (HX2.out.below hb3)
  have HZ3 := hid (HZ2.out.below hb3)
  have HAT3 := hid (HAT2.out.below hb3)
  have HB3 := hid (ext_trans HB2.out hb3)
  have HOW3 := hid (own_old HOW2.out hb3)
  have HZZ := hid (And.intro HB2.out.size hb3.size)
  clear hb3 HX2 HZ2 HAT2
  obtain ⟨q, hq⟩ : ∃ q, vars.any (outV V) = q := ⟨_, rfl⟩
  rw [hq] at HP HPA ⊢
  cases q
  case true =>
    have hz := HZ3.out
    have f0 := hz.free 0
    have f1 := hz.free 1
    have f2 := hz.free 2
    have f3 := hz.free 3
    have c0 := hz.cell 0 (v := .int .i64 0) rfl
    have c1 := hz.cell 1 (v := .int .i64 0) rfl
    have c2 := hz.cell 2 (v := .int .i64 0) rfl
    have c3 := hz.cell 3 (v := .slice none 0 0) rfl
    clear hz hq
    go_wp2_with fail
    have hF := tset4 HZ3.out (.int .i64 0) (.int .i64 0) (.int .i64 0) (.slice none 0 0)
    have hBf := tbelow4 HB3.out (Nat.le_succ _) (.int .i64 0) (.int .i64 0) (.int .i64 0) (.slice none 0 0)
    obtain ⟨Wf, hWf⟩ : ∃ Wf, Wf = (((w3.setCell ⟨w.heap.size + 1, 0, none⟩ (.int .i64 0)).setCell ⟨w.heap.size + 1, 1, none⟩ (.int .i64 0)).setCell ⟨w.heap.size + 1, 2, none⟩ (.int .i64 0)).setCell ⟨w.heap.size + 1, 3, none⟩ (.slice none 0 0) := ⟨_, rfl⟩
    rw [← hWf] at hF hBf ⊢
    have q0 := hF.cell 0 (v := .int .i64 0) rfl
    have q1 := hF.cell 1 (v := .int .i64 0) rfl
    have q2 := hF.cell 2 (v := .int .i64 0) rfl
    have q3 := hF.cell 3 (v := .slice none 0 0) rfl
    exact bodyPost_ret (v := .tuple #[.agg #[.int .i64 0, .int .i64 0, .int .i64 0, .slice none 0 0], .int .i64 1]) (by simp [results, Tryd.results12, go_sem, q0, q1, q2, q3]) rfl (HPA.out _ (by first | rfl | trivial) hBf)
  case false =>
    clear hq HPA
    go_wp2_with fail
    refine (HKP.out _ _ _ HAT3.out (HV.out.below HB3.out)).mono ?_
    rintro e' W4 ⟨vk, rfl, hok, hb4⟩
    obtain ⟨ka, kc, rfl⟩ := own_sl' hok
    obtain ⟨oa, oc, rfl⟩ := own_sl' HOW3.out
    have HX4 := hid (HX3.out.below hb4)
    have HZ4 := hid (HZ3.out.below hb4)
    have HB4 := hid (ext_trans HB3.out hb4)
    have HOW4 := hid (own_old HOW3.out hb4)
    have HRK := hid (rdNats_of_own hok)
    have HW4 : Hid (w.heap.size + 1 < W4.heap.size) := hid (HZ4.out.lt)
    have d0 := HX4.out.cell 0 (v := .int .i64 T) rfl
    have d1 := HX4.out.cell 1 (v := .int .i64 V) rfl
    have d2 := HX4.out.cell 2 (v := .int .i64 S) rfl
    have d3 := HX4.out.cell 3 (v := .slice a l.length cap) rfl
    have d3a := (HX4.out.alloc (.cells #[.int .i64 T, .int .i64 V, .int .i64 S, .slice none 0 0] 36)).cell 3 (v := .slice a l.length cap) rfl
    clear hb4 hok HX3 HZ3 HB3 HOW3 HAT3
    go_wp2_with fail
    clear d0 d1 d2 d3 d3a
    have HOC : Hid (∀ k, k < l.length → ∃ g, oa = some ⟨g, 0, none⟩ ∧ g < W4.heap.size ∧ W4.cell? ⟨g, k, none⟩ = some (.int .i64 (ofI l k))) := hid (fun k hk => by
      obtain ⟨g, c, e1, -, hg⟩ := own_slice HOW4.out (by omega)
      cases e1
      refine ⟨g, rfl, hg, ?_⟩
      rw [HOW4.out.cellAt k (by omega), HOF.out, List.map_map, List.getElem?_map, List.getElem?_range hk]
      rfl)
    go_loopw [45] (fun i wr => ∃ (k : Nat) (cur : Value), k ≤ l.length ∧ i = .int .i64 (k : Int) ∧ Hid (ByI W4 wr T V S l K k cur)) (fun i _ => l.length - (intOf i).toNat)
    case atStart => exact ⟨0, _, Nat.zero_le _, rfl, hid ByI.begin⟩
    case round =>
      obtain ⟨k, cur, hk, rfl, HI⟩ := hrel
      by_cases hlt : k < l.length
      · obtain ⟨b, o, rfl, hcell⟩ := HE.out.2 (by intro h; rw [h] at hlt; simp at hlt)
        have hbn := HEB.out b o rfl (by intro h; rw [h] at hlt; simp at hlt)
        obtain ⟨g, rfl, hg, co⟩ := HOC.out k hlt
        have co := (HI.out.low.cell (p := ⟨g, k, none⟩) hg).trans co
        have hBw : Below w.heap.size w wr := HB4.out.trans (HI.out.low.mono HB4.out.size)
        have HBS := hid (bs_any K HKS.out (by have := HKL.out; omega) (ofI l k))
        have HQF := hid (fun W1 h => HI.out.skip (W1 := W1) hlt h)
        have HQT := hid (fun e v W1 W2 (h1 : l[k] = e) h2 => HI.out.add (e := e) (v := v) (W1 := W1) (W2 := W2) hlt h1 h2)
        have HLT := hid hlt
        rcases hek : l[k] with ⟨kind, th, tx, at_, v, x, why⟩
        have HQT := hid (HQT.out ⟨kind, th, tx, at_, v, x, why⟩)
        have HEK := hid hek
        have e0 := (hBw.cell (p := ⟨b, o + k * 7 + 0, none⟩) hbn).trans (hcell k hlt 0 (.int .u8 kind) (congrArg (fun e => (evL e)[0]?) hek))
        have e1 := (hBw.cell (p := ⟨b, o + k * 7 + 1, none⟩) hbn).trans (hcell k hlt 1 (.int .i64 th) (congrArg (fun e => (evL e)[1]?) hek))
        have e2 := (hBw.cell (p := ⟨b, o + k * 7 + 2, none⟩) hbn).trans (hcell k hlt 2 (.int .i64 tx) (congrArg (fun e => (evL e)[2]?) hek))
        have e3 := (hBw.cell (p := ⟨b, o + k * 7 + 3, none⟩) hbn).trans (hcell k hlt 3 (.int .i64 at_) (congrArg (fun e => (evL e)[3]?) hek))
        have e4 := (hBw.cell (p := ⟨b, o + k * 7 + 4, none⟩) hbn).trans (hcell k hlt 4 (.int .i64 v) (congrArg (fun e => (evL e)[4]?) hek))
        have e5 := (hBw.cell (p := ⟨b, o + k * 7 + 5, none⟩) hbn).trans (hcell k hlt 5 (.int .i64 x) (congrArg (fun e => (evL e)[5]?) hek))
        have e6 := (hBw.cell (p := ⟨b, o + k * 7 + 6, none⟩) hbn).trans (hcell k hlt 6 (.int .u8 why) (congrArg (fun e => (evL e)[6]?) hek))
        rw [Nat.add_zero] at e0
        have hA := ext_alloc (ext_refl wr) (.cells #[.int .u8 kind, .int .i64 th, .int .i64 tx, .int .i64 at_, .int .i64 v, .int .i64 x, .int .u8 why] 32)
        have HA := hid hA
        have HRK5 := hid (HRK.out.below (ext_alloc HI.out.low (.cells #[.int .u8 kind, .int .i64 th, .int .i64 tx, .int .i64 at_, .int .i64 v, .int .i64 x, .int .u8 why] 32)))
        have j1 : decide ((k : Int) < (l.length : Int)) = true := by rw [decide_eq_true_iff]; omega
        have j2 : (0 : Int) ≤ (k : Int) := by omega
        have j3 : IntKind.i64.wrap ((k : Int) + 1) = ((k + 1 : Nat) : Int) := by have := HL.out; rw [IntWalk.i64_in _ (by omega)]; omega
        have hbl := lt_of_cell e0
        have hgl := lt_of_cell co
        obtain ⟨ca, cc, rfl⟩ := own_sl' HI.out.own
        have u3 := (HI.out.u.below hA).cell 3 (v := .slice ca (byF l K k).length cc) rfl
        have hxl := HI.out.u.lt
        have hbw := Blk.new wr #[.int .u8 kind, .int .i64 th, .int .i64 tx, .int .i64 at_, .int .i64 v, .int .i64 x, .int .u8 why] 32
        have z0 := hbw.cell 0 (v := .int .u8 kind) rfl
        have z1 := hbw.cell 1 (v := .int .i64 th) rfl
        have z2 := hbw.cell 2 (v := .int .i64 tx) rfl
        have z3 := hbw.cell 3 (v := .int .i64 at_) rfl
        have z4 := hbw.cell 4 (v := .int .i64 v) rfl
        have z5 := hbw.cell 5 (v := .int .i64 x) rfl
        have z6 := hbw.cell 6 (v := .int .u8 why) rfl
        have hbw2 := Blk.new' (wr.alloc (.cells #[.int .u8 kind, .int .i64 th, .int .i64 tx, .int .i64 at_, .int .i64 v, .int .i64 x, .int .u8 why] 32)) #[.int .u8 kind, .int .i64 th, .int .i64 tx, .int .i64 at_, .int .i64 v, .int .i64 x, .int .u8 why] 32 (World.size_alloc _ _).symm
        have HCW := hid (blk_at' (cs := [.int .u8 kind, .int .i64 th, .int .i64 tx, .int .i64 at_, .int .i64 v, .int .i64 x, .int .u8 why]) hbw2)
        have HA2 := hid (ext_alloc hA (.cells #[.int .u8 kind, .int .i64 th, .int .i64 tx, .int .i64 at_, .int .i64 v, .int .i64 x, .int .u8 why] 32))
        have HOWNX := hid (own_old HI.out.own HA2.out)
        have HM1 : Hid ((byF l K k).length + 1 ≤ maxLen) := hid (by have := byF_len l K k; have := HL.out; unfold maxLen; omega)
        have HM2 : Hid (((byF l K k).length + 1) * 56 ≤ 140737488355328) := hid (by have := byF_len l K k; have := HL.out; omega)
        have HSZX : Hid (W4.heap.size + 1 ≤ ((wr.alloc (.cells #[.int .u8 kind, .int .i64 th, .int .i64 tx, .int .i64 at_, .int .i64 v, .int .i64 x, .int .u8 why] 32)).alloc (.cells #[.int .u8 kind, .int .i64 th, .int .i64 tx, .int .i64 at_, .int .i64 v, .int .i64 x, .int .u8 why] 32)).heap.size) := hid (by have := HI.out.u.lt; simp; omega)
        have HU2 := hid (HI.out.u.below HA2.out)
        clear hA hbw hbw2 hcell hek hbn hBw
        go_wp2_with fail
        refine (HBS.out _ _ HRK5.out).mono ?_
        rintro e' w5 ⟨p, rfl, rfl⟩
        obtain ⟨q, hq⟩ : ∃ q, inK K (ofI l k) = q := ⟨_, rfl⟩
        rw [hq] at HQF HQT ⊢
        clear hq HBS
        cases q
        case false =>
          clear HQT
          go_wp2_with fail
          go_roundw
          case rel => exact ⟨k + 1, _, HLT.out, by go_num, hid (HQF.out _ (by first | rfl | trivial) HA.out)⟩
          case measure => have := HLT.out; simp [intOf]; omega
        case true =>
          clear HQF
          go_wp2_with (at_builtin; go_must (refine wpList_append_own_at _ rfl (.tmp 61) (.tmp 63) 34 rfl (W4.heap.size + 1) 32 ti _ 7 56 Tryd.underlying34 hti hz0 hz1 hz2 rfl (by decide) (.slice ca (byF l K k).length cc) (byF l K k).length ((byF l K k).flatMap evL) rfl HOWNX.out ⟨wr.heap.size + 1, 0, none⟩ 1 1 [.int .u8 kind, .int .i64 th, .int .i64 tx, .int .i64 at_, .int .i64 v, .int .i64 x, .int .u8 why] rfl rfl HCW.out (by simp [Value.oneCell']) HM1.out HM2.out HSZX.out ?_); intro v' w6 hown6 hgr6 _hn hd6; obtain ⟨va, vc, rfl⟩ := own_sl' hown6; have hu6 := HU2.out.grown hgr6 (blk_ne HOWNX.out HU2.out (by decide)); have y3 := hu6.cell 3 (v := .slice ca (byF l K k).length cc) rfl; have g3 := hu6.free 3)
          have HFIN := hid (HQT.out _ _ _ HEK.out (by first | rfl | trivial) HA2.out hown6 hgr6)
          go_roundw
          case rel => exact ⟨k + 1, _, HLT.out, by go_num, HFIN⟩
          case measure => have := HLT.out; simp [intOf]; omega
      · obtain rfl : k = l.length := by omega
        have j1 : decide ((l.length : Int) < (l.length : Int)) = false := by rw [decide_eq_false_iff_not]; omega
        obtain ⟨ca, cc, rfl⟩ := own_sl' HI.out.own
        have u0 := HI.out.u.cell 0 (v := .int .i64 T) rfl
        have u1 := HI.out.u.cell 1 (v := .int .i64 V) rfl
        have u2 := HI.out.u.cell 2 (v := .int .i64 S) rfl
        have u3 := HI.out.u.cell 3 (v := .slice ca (byF l K l.length).length cc) rfl
        have hz := HZ4.out.below HI.out.low
        have HZ5 := hid hz
        have f0 := hz.free 0
        have f1 := hz.free 1
        have f2 := hz.free 2
        have f3 := hz.free 3
        have c0 := hz.cell 0 (v := .int .i64 0) rfl
        have c1 := hz.cell 1 (v := .int .i64 0) rfl
        have c2 := hz.cell 2 (v := .int .i64 0) rfl
        have c3 := hz.cell 3 (v := .slice none 0 0) rfl
        have hBw : Below w.heap.size w wr := HB4.out.trans (HI.out.low.mono HB4.out.size)
        have HBW := hid hBw
        clear hz hBw
        go_wp2_with fail
        have hF := tset4 HZ5.out (.int .i64 T) (.int .i64 V) (.int .i64 S) (.slice ca (byF l K l.length).length cc)
        have hBf := tbelow4 HBW.out (Nat.le_succ _) (.int .i64 T) (.int .i64 V) (.int .i64 S) (.slice ca (byF l K l.length).length cc)
        have hne : ∀ g, (Value.slice ca (byF l K l.length).length cc).ownBlock = some g → g ≠ w.heap.size + 1 := fun g hg => by have := (HI.out.own.lt g hg).1; have := HW4.out; omega
        have hownF := own_setB (own_setB (own_setB (own_setB HI.out.own hne (o := 0) (x := .int .i64 T)) hne (o := 1) (x := .int .i64 V)) hne (o := 2) (x := .int .i64 S)) hne (o := 3) (x := .slice ca (byF l K l.length).length cc)
        obtain ⟨Wf, hWf⟩ : ∃ Wf, Wf = (((wr.setCell ⟨w.heap.size + 1, 0, none⟩ (.int .i64 T)).setCell ⟨w.heap.size + 1, 1, none⟩ (.int .i64 V)).setCell ⟨w.heap.size + 1, 2, none⟩ (.int .i64 S)).setCell ⟨w.heap.size + 1, 3, none⟩ (.slice ca (byF l K l.length).length cc) := ⟨_, rfl⟩
        rw [← hWf] at hF hBf hownF ⊢
        have q0 := hF.cell 0 (v := .int .i64 T) rfl
        have q1 := hF.cell 1 (v := .int .i64 V) rfl
        have q2 := hF.cell 2 (v := .int .i64 S) rfl
        have q3 := hF.cell 3 (v := .slice ca (byF l K l.length).length cc) rfl
        exact bodyPost_ret (v := .tuple #[.agg #[.int .i64 T, .int .i64 V, .int .i64 S, .slice ca (byF l K l.length).length cc], .int .i64 0]) (by simp [results, Tryd.results12, go_sem, q0, q1, q2, q3]) rfl (HP.out _ _ ⟨_, rfl, (by first | rfl | trivial), hBf, own_mono hownF (by have := HW4.out; omega)⟩)
end Go.Proofs.YtnmbacleaijhmaaDoor
/-
  Walk: whether two rows of numbers are the same (SlL1 without large and in).
-/
namespace Go.Proofs.YtnmbacleaijhmaaDoor
set_option linter.unusedVariables false
set_option linter.unusedSimpArgs false
set_option linter.unusedVariables false
open Go Go.RowKit
set_option maxRecDepth 100000 in
set_option maxHeartbeats 4000000 in
theorem numbers_any (l m : List Nat) (w : World) (v u : Value) (hr : RdNats w l v) (hu : RdNats w m u) (hl : l.length ≤ 1000000000) (hm : m.length ≤ 1000000000) :
    Calls Tryd.prog 9 #[v, u] w fun e' w' => e' = .returned (.bool (decide (l = m))) ∧ Below w.heap.size w w' := by
  obtain ⟨a, cap, rfl, hx⟩ := hr
  obtain ⟨a', cap', rfl, hy⟩ := hu
  have HX := hid hx; clear hx
  have HY := hid hy; clear hy
  have HL := hid hl; clear hl
  obtain ⟨d, hd⟩ : ∃ d, d = decide (l = m) := ⟨_, rfl⟩
  rw [← hd]
  have HD := hid hd
  clear hd
  by_cases hlen : l.length = m.length
  · have f1 : ((l.length : Int) != (m.length : Int)) = false := by simp [hlen]
    have f2 : ((l.length : Int) == (m.length : Int)) = true := by simp [hlen]
    rw [← hlen]
    have HLEN := hid hlen
    clear hlen hm f1 f2
    go_enter Tryd.func9, Tryd.ntmps9
    go_wp2_with fail
    go_loopw [5] (fun i wr => ∃ k : Nat, k ≤ l.length ∧ i = .int .i64 k ∧ Hid (l.take k = m.take k) ∧ Hid (Below w.heap.size w wr)) (fun i _ => l.length - (intOf i).toNat)
    case atStart => exact ⟨0, Nat.zero_le _, rfl, hid (by simp), hid (ext_refl _)⟩
    case round =>
      obtain ⟨k, hk, rfl, HI, HBW⟩ := hrel
      by_cases hlt : k < l.length
      · have hlt' : k < m.length := by have := HLEN.out; omega
        obtain ⟨b, off, rfl, hrd⟩ := HX.out (by intro h; subst h; simp at hlt)
        obtain ⟨b', off', rfl, hrd'⟩ := HY.out (by intro h; subst h; simp at hlt')
        have c0 := later HBW.out (hrd k hlt)
        have c1 := later HBW.out (hrd' k hlt')
        have hbl := lt_of_cell c0
        have hbl' := lt_of_cell c1
        have j1 : decide ((k : Int) < (l.length : Int)) = true := by rw [decide_eq_true_iff]; omega
        have j2 : (0 : Int) ≤ (k : Int) := by omega
        have j3 : IntKind.i64.wrap ((k : Int) + 1) = ((k + 1 : Nat) : Int) := by have := HL.out; rw [IntWalk.i64_in _ (by omega)]; omega
        have HT : Hid (l.take (k + 1) = l.take k ++ [l[k]]) := hid (List.take_succ_eq_append_getElem hlt)
        have HT' : Hid (m.take (k + 1) = m.take k ++ [m[k]]) := hid (List.take_succ_eq_append_getElem hlt')
        have HNE : Hid (l[k] ≠ m[k] → l ≠ m) := hid (fun h e => h (by subst e; rfl))
        have HLT := hid hlt
        have HHH : Hid True := hid trivial
        clear hrd hrd'
        generalize l[k] = x at *
        generalize m[k] = y at *
        by_cases he : x = y
        · subst he
          go_wp2_with fail
          go_quiet (fail)
          go_wp2_with fail
          go_roundw
          case rel => exact ⟨k + 1, HLT.out, by simp, hid (by rw [HT.out, HT'.out, HI.out]), hid (ext_drewN HBW.out _)⟩
          case measure => have := HLT.out; simp [intOf]; omega
        · have e1 : ((x : Int) != (y : Int)) = true := by rw [bne_iff_ne]; omega
          have e2 : ((x : Int) == (y : Int)) = false := by rw [beq_eq_false_iff_ne]; omega
          have hdt : d = false := by rw [HD.out, decide_eq_false_iff_not]; exact HNE.out he
          subst hdt
          clear he
          go_wp2_with fail
          go_quiet (fail)
          go_wp2_with fail
          go_ret
          exact ⟨rfl, ext_drewN HBW.out _⟩
      · obtain rfl : k = l.length := by omega
        have j1 : decide ((l.length : Int) < (l.length : Int)) = false := by rw [decide_eq_false_iff_not]; omega
        have hdt : d = true := by
          rw [HD.out, decide_eq_true_iff]
          have := HI.out
          rwa [List.take_length, HLEN.out, List.take_length] at this
        subst hdt
        go_wp2_with fail
        go_ret
        exact ⟨rfl, HBW.out⟩
  · have f1 : ((l.length : Int) != (m.length : Int)) = true := by rw [bne_iff_ne]; omega
    have f2 : ((l.length : Int) == (m.length : Int)) = false := by rw [beq_eq_false_iff_ne]; omega
    have hdt : d = false := by rw [HD.out, decide_eq_false_iff_not]; exact fun h => hlen (by rw [h])
    subst hdt
    go_enter Tryd.func9, Tryd.ntmps9
    go_wp2_with fail
    go_ret
    exact ⟨rfl, ext_refl _⟩
end Go.Proofs.YtnmbacleaijhmaaDoor
/-
  Walks: the examples of the laws on slices.
-/
namespace Go.Proofs.YtnmbacleaijhmaaDoor
set_option linter.unusedVariables false
set_option linter.unusedSimpArgs false
set_option linter.unusedVariables false
open Go Go.RowKit
def threeL : List Att := [⟨0, 0, 0, 1, 0, 2, true, [], [(0, 0)]⟩, ⟨1, 0, 2, 3, 2, 3, true, [(1, 0)], [(0, 0)]⟩, ⟨2, 0, 4, 5, 0, 1, true, [], [(1, 0)]⟩]
def pairC (p : Int) : Array Value := #[.int .i64 p, .int .i64 0]
def threeC (b : Nat) : Array Value := #[.int .i64 0, .int .i64 0, .int .i64 0, .int .i64 1, .int .i64 0, .int .i64 2, .bool true, .slice none 0 0, .slice (some ⟨b, 0, none⟩) 1 1,
  .int .i64 1, .int .i64 0, .int .i64 2, .int .i64 3, .int .i64 2, .int .i64 3, .bool true, .slice (some ⟨b + 1, 0, none⟩) 1 1, .slice (some ⟨b + 2, 0, none⟩) 1 1,
  .int .i64 2, .int .i64 0, .int .i64 4, .int .i64 5, .int .i64 0, .int .i64 1, .bool true, .slice none 0 0, .slice (some ⟨b + 3, 0, none⟩) 1 1]
set_option maxRecDepth 100000 in
set_option maxHeartbeats 4000000 in
theorem pair_any (p : Int) (w : World) : Calls Tryd.prog 17 #[.int .i64 p] w fun e w' => e = .returned (.slice (some ⟨w.heap.size, 0, none⟩) 1 1) ∧ w' = w.alloc (.cells #[.int .i64 p, .int .i64 0] 67) := by
  go_enter Tryd.func17, Tryd.ntmps17
  go_wp2_with fail
  go_ret
  exact ⟨rfl, rfl⟩
theorem rdPairs_one {w : World} {b : Nat} {p : Int} (h : Blk w b #[.int .i64 p, .int .i64 0] 67) (hp : B64 p) : RdPairs w [(p, 0)] (.slice (some ⟨b, 0, none⟩) 1 1) := by
  refine ⟨_, 1, rfl, by simp, fun q hq => ?_, fun _ => ⟨b, 0, rfl, fun k hk => ?_⟩⟩
  · rw [List.mem_singleton.1 hq]
    exact ⟨hp, by unfold B64; omega⟩
  · obtain rfl : k = 0 := by simpa using hk
    exact ⟨h.cell 0 rfl, h.cell 1 rfl⟩
theorem rdPairs_none (w : World) : RdPairs w [] (.slice none 0 0) := ⟨none, 0, rfl, by simp, (fun q hq => by cases hq), fun h => absurd rfl h⟩
set_option maxRecDepth 100000 in
theorem rdThree {w : World} {b c : Nat} (h0 : Blk w b #[.int .i64 0, .int .i64 0] 67) (h1 : Blk w (b + 1) #[.int .i64 1, .int .i64 0] 67) (h2 : Blk w (b + 2) #[.int .i64 0, .int .i64 0] 67) (h3 : Blk w (b + 3) #[.int .i64 1, .int .i64 0] 67) (h : Blk w c (threeC b) 27) : RdAtts w threeL (.slice (some ⟨c, 0, none⟩) 3 3) := by
  refine ⟨_, 3, rfl, by simp [threeL], fun _ => ⟨c, 0, rfl, fun k hk => ?_⟩⟩
  have e0 : B64 0 := by unfold B64; omega
  have e1 : B64 1 := by unfold B64; omega
  have e2 : B64 2 := by unfold B64; omega
  have e3 : B64 3 := by unfold B64; omega
  have e4 : B64 4 := by unfold B64; omega
  have e5 : B64 5 := by unfold B64; omega
  rcases k with _ | _ | _ | k
  · exact ⟨_, _, ⟨e0, e0, e0, e1, e0, e2⟩, h.cell 0 rfl, h.cell 1 rfl, h.cell 2 rfl, h.cell 3 rfl, h.cell 4 rfl, h.cell 5 rfl, h.cell 6 rfl, h.cell 7 rfl, h.cell 8 rfl, rdPairs_none w, rdPairs_one h0 e0⟩
  · exact ⟨_, _, ⟨e1, e0, e2, e3, e2, e3⟩, h.cell 9 rfl, h.cell 10 rfl, h.cell 11 rfl, h.cell 12 rfl, h.cell 13 rfl, h.cell 14 rfl, h.cell 15 rfl, h.cell 16 rfl, h.cell 17 rfl, rdPairs_one h1 e1, rdPairs_one h2 e0⟩
  · exact ⟨_, _, ⟨e2, e0, e4, e5, e0, e1⟩, h.cell 18 rfl, h.cell 19 rfl, h.cell 20 rfl, h.cell 21 rfl, h.cell 22 rfl, h.cell 23 rfl, h.cell 24 rfl, h.cell 25 rfl, h.cell 26 rfl, rdPairs_none w, rdPairs_one h3 e1⟩
  · simp [threeL] at hk; omega
set_option maxRecDepth 100000 in
set_option maxHeartbeats 4000000 in
theorem three_any (w : World) : Calls Tryd.prog 8 #[] w fun e w' => ∃ a cap, e = .returned (.slice a 3 cap) ∧ RdAtts w' threeL (.slice a 3 cap) ∧ Below w.heap.size w w' := by
  have HP := hid (pair_any)
  go_enter Tryd.func8, Tryd.ntmps8
  go_wp2_with fail
  refine (HP.out 0 _).mono ?_
  rintro e' w1 ⟨rfl, rfl⟩
  go_wp2_with fail
  refine (HP.out 1 _).mono ?_
  rintro e' w1 ⟨rfl, rfl⟩
  go_wp2_with fail
  refine (HP.out 0 _).mono ?_
  rintro e' w1 ⟨rfl, rfl⟩
  go_wp2_with fail
  refine (HP.out 1 _).mono ?_
  rintro e' w1 ⟨rfl, rfl⟩
  go_wp2_with fail
  go_ret
  refine ⟨_, _, rfl, rdThree (b := w.heap.size) (((((Blk.new _ _ _).alloc _).alloc _).alloc _).alloc _) ((((Blk.new' _ _ _ (by simp)).alloc _).alloc _).alloc _) (((Blk.new' _ _ _ (by simp)).alloc _).alloc _) ((Blk.new' _ _ _ (by simp)).alloc _) (Blk.new' _ _ _ (by simp)), by repeat (first | assumption | exact ext_refl _ | refine ext_drew ?_ | refine ext_alloc ?_ _ | refine ext_trans ?_ (by assumption))⟩
theorem kept3_0 : keptL threeL [0] = [1, 2] := by decide +kernel
theorem kept3_5 : keptL threeL [5] = [] := by decide +kernel
theorem kept3_n : keptL threeL [] = [] := by decide +kernel
theorem rdI_one {w : World} {b : Nat} {p : Int} (h : Blk w b #[.int .i64 p] 3) (hp : B64 p) : RdI w [p] (.slice (some ⟨b, 0, none⟩) 1 1) := by
  refine ⟨_, 1, rfl, by simp, fun q hq => by rw [List.mem_singleton.1 hq]; exact hp, fun _ => ⟨b, 0, rfl, fun k hk => ?_⟩, (fun h => by cases h)⟩
  obtain rfl : k = 0 := by simpa using hk
  exact h.cell 0 rfl
theorem rdI_none (w : World) : RdI w [] (.slice none 0 0) := ⟨none, 0, rfl, by simp, (fun q hq => by cases hq), fun h => absurd rfl h, fun _ => rfl⟩
theorem rdNats_12 {w : World} {b : Nat} (h : Blk w b #[.int .i64 1, .int .i64 2] 3) : RdNats w [1, 2] (.slice (some ⟨b, 0, none⟩) 2 2) := by
  refine ⟨_, 2, rfl, fun _ => ⟨b, 0, rfl, fun k hk => ?_⟩⟩
  rcases k with _ | _ | k
  · exact h.cell 0 rfl
  · exact h.cell 1 rfl
  · simp at hk; omega
theorem own_len0 {W : World} {n₀ e : Nat} {v : Value} (h : W.ownsRow n₀ e 1 v 0 (natV [])) : ∃ a c, v = .slice a 0 c := by
  rcases h.2 with ⟨rfl, _⟩ | ⟨g, cap, cur, rfl, _⟩
  · exact ⟨none, 0, rfl⟩
  · exact ⟨_, _, rfl⟩
theorem own_sl {W : World} {n₀ e size n : Nat} {v : Value} {xs : List Value} (h : W.ownsRow n₀ e size v n xs) : ∃ a c, v = .slice a n c := by
  rcases h.2 with ⟨rfl, h0⟩ | ⟨g, cap, cur, rfl, _⟩
  · exact ⟨none, 0, by rw [h0]⟩
  · exact ⟨_, _, rfl⟩
set_option maxRecDepth 100000 in
set_option maxHeartbeats 4000000 in
theorem works_any (w : World) : Calls Tryd.prog 7 #[] w fun e w' => e = .returned (.bool true) ∧ Below w.heap.size w w' := by
  have HT := hid three_any
  have HK0 : Hid (∀ w vl vv, RdAtts w threeL vl → RdI w [0] vv → Calls Tryd.prog 10 #[vl, vv] w fun e w' => ∃ a c, e = .returned (.slice a 2 c) ∧ RdNats w' [1, 2] (.slice a 2 c) ∧ Below w.heap.size w w') := hid (fun w vl vv h1 h2 => (kept_any threeL [0] w vl vv h1 h2 (by decide +kernel) (by decide)).mono (by
    rintro e w' ⟨v, rfl, h3, h4⟩
    rw [kept3_0] at h3
    obtain ⟨a, c, rfl⟩ := own_sl h3
    exact ⟨a, c, rfl, rdNats_of_own h3, h4⟩))
  have HK5 : Hid (∀ w vl vv, RdAtts w threeL vl → RdI w [5] vv → Calls Tryd.prog 10 #[vl, vv] w fun e w' => ∃ a c, e = .returned (.slice a 0 c) ∧ Below w.heap.size w w') := hid (fun w vl vv h1 h2 => (kept_any threeL [5] w vl vv h1 h2 (by decide +kernel) (by decide)).mono (by
    rintro e w' ⟨v, rfl, h3, h4⟩
    rw [kept3_5] at h3
    obtain ⟨a, c, rfl⟩ := own_len0 h3
    exact ⟨a, c, rfl, h4⟩))
  have HKN : Hid (∀ w vl vv, RdAtts w threeL vl → RdI w [] vv → Calls Tryd.prog 10 #[vl, vv] w fun e w' => ∃ a c, e = .returned (.slice a 0 c) ∧ Below w.heap.size w w') := hid (fun w vl vv h1 h2 => (kept_any threeL [] w vl vv h1 h2 (by decide +kernel) (by decide)).mono (by
    rintro e w' ⟨v, rfl, h3, h4⟩
    rw [kept3_n] at h3
    obtain ⟨a, c, rfl⟩ := own_len0 h3
    exact ⟨a, c, rfl, h4⟩))
  have HN : Hid (∀ w v u, RdNats w [1, 2] v → RdNats w [1, 2] u → Calls Tryd.prog 9 #[v, u] w fun e' w' => e' = .returned (.bool true) ∧ Below w.heap.size w w') := hid (fun w v u h1 h2 => by have := numbers_any [1, 2] [1, 2] w v u h1 h2 (by decide) (by decide); rwa [decide_eq_true rfl] at this)
  have e0 : B64 0 := by unfold B64; omega
  have e5 : B64 5 := by unfold B64; omega
  have E0 := hid e0
  have E5 := hid e5
  clear e0 e5
  go_enter Tryd.func7, Tryd.ntmps7
  go_wp2_with fail
  refine (HT.out _).mono ?_
  rintro e' w1 ⟨a1, c1, rfl, hr1, hb1⟩
  have HR1 := hid (hr1.below (ext_alloc (ext_refl _) (.cells #[.int .i64 0] 3)))
  have HI1 := hid (rdI_one (Blk.new w1 #[.int .i64 0] 3) E0.out)
  have hB1 := ext_alloc hb1 (.cells #[.int .i64 0] 3)
  clear hr1
  go_wp2_with fail
  refine (HK0.out _ _ _ HR1.out HI1.out).mono ?_
  rintro e' w2 ⟨a2, c2, rfl, hr2, hb2⟩
  have HR2 := hid (hr2.below (ext_alloc (ext_refl _) (.cells #[.int .i64 1, .int .i64 2] 3)))
  have HI2 := hid (rdNats_12 (Blk.new w2 #[.int .i64 1, .int .i64 2] 3))
  have hB2 := ext_alloc (ext_trans hB1 hb2) (.cells #[.int .i64 1, .int .i64 2] 3)
  clear hr2
  go_wp2_with fail
  refine (HN.out _ _ _ HR2.out HI2.out).mono ?_
  rintro e' w3 ⟨rfl, hb3⟩
  have hB3 := ext_trans hB2 hb3
  go_wp2_with fail
  refine (HT.out _).mono ?_
  rintro e' w4 ⟨a4, c4, rfl, hr4, hb4⟩
  have HR4 := hid (hr4.below (ext_alloc (ext_refl _) (.cells #[.int .i64 5] 3)))
  have HI4 := hid (rdI_one (Blk.new w4 #[.int .i64 5] 3) E5.out)
  have hB4 := ext_alloc (ext_trans hB3 hb4) (.cells #[.int .i64 5] 3)
  clear hr4
  go_wp2_with fail
  refine (HK5.out _ _ _ HR4.out HI4.out).mono ?_
  rintro e' w5 ⟨a5, c5, rfl, hb5⟩
  have hB5 := ext_trans hB4 hb5
  go_wp2_with fail
  refine (HT.out _).mono ?_
  rintro e' w6 ⟨a6, c6, rfl, hr6, hb6⟩
  have hB6 := ext_trans hB5 hb6
  have HR6 := hid hr6
  clear hr6
  go_wp2_with fail
  refine (HKN.out _ _ _ HR6.out (rdI_none _)).mono ?_
  rintro e' w7 ⟨a7, c7, rfl, hb7⟩
  have hB7 := ext_trans hB6 hb7
  go_wp2_with fail
  go_ret
  exact ⟨rfl, hB7⟩
end Go.Proofs.YtnmbacleaijhmaaDoor
