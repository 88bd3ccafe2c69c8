/-
  Joined texts: HtH HtW5 HtW6.
-/
import Derived.Test.YtcddlnmcjmhbcaaDoorHtF
import Derived.Test.YtcddlnmcjmhbcaaDoorHtE
import Derived.Test.YtcddlnmcjmhbcaaDoorRcW3
import Derived.Deep.DeepCutAuto
/-
  Attempts that are being told, in memory; how long what an attempt read and wrote may be.
-/
namespace Go.Proofs.YtcddlnmcjmhbcaaDoor
set_option linter.unusedVariables false
set_option linter.unusedSimpArgs false
set_option linter.unusedVariables false
open Go Go.RowKit
theorem attsL_snoc2 (L : List Att) (H : Nat → Bool → Value) (a : Att) (r u : Value) : attsL (L ++ [a]) (fun k b => if k = L.length then (if b then u else r) else H k b) = attsL L H ++ attL a r u := by
  unfold attsL
  rw [List.length_append, List.length_singleton, List.range_succ, List.flatMap_append]
  congr 1
  · refine rowsF_congr _ _ _ fun i hi => ?_
    dsimp only
    rw [if_neg (by omega), if_neg (by omega), List.getD_eq_getElem?_getD, List.getD_eq_getElem?_getD, List.getElem?_append_left hi]
  · simp
def AtsM (W : World) (n₀ : Nat) (vo : Value) (L : List Att) (H : Nat → Bool → Value) : Prop :=
  RowM W n₀ 58 9 vo L.length (attsL L H) ∧ ∀ k b, k < L.length → RowM W n₀ 61 2 (H k b) (plB (L.getD k Att.zero) b).length (pairsL (plB (L.getD k Att.zero) b))
theorem AtsM.old {W W' : World} {n₀ : Nat} {vo : Value} {L : List Att} {H : Nat → Bool → Value} (h : AtsM W n₀ vo L H) (hb : Below W.heap.size W W') : AtsM W' n₀ vo L H := ⟨h.1.old hb, fun k b hk => (h.2 k b hk).old hb⟩
theorem AtsM.nil (W : World) (n₀ : Nat) (H : Nat → Bool → Value) : AtsM W n₀ (.slice none 0 0) [] H := ⟨RowM.nil _ _ _ _, fun k b hk => absurd hk (Nat.not_lt_zero _)⟩
theorem AtsM.push {W W2 : World} {n₀ : Nat} {vo vo' : Value} {L : List Att} {H : Nat → Bool → Value} (h : AtsM W n₀ vo L H) {a : Att} {r u : Value} (ho : W2.ownsRow n₀ 58 9 vo' (L.length + 1) (attsL L H ++ attL a r u)) (hg : W.grownBy W2 vo.ownBlock)
    (hr : RowM W n₀ 61 2 r a.reads.length (pairsL a.reads)) (hu : RowM W n₀ 61 2 u a.writes.length (pairsL a.writes)) : AtsM W2 n₀ vo' (L ++ [a]) (fun k b => if k = L.length then (if b then u else r) else H k b) := by
  have K : ∀ {v : Value} {n : Nat} {xs : List Value}, RowM W n₀ 61 2 v n xs → RowM W2 n₀ 61 2 v n xs := fun hx => ⟨hx.1.kept hg (rows_ne hx.1 h.1.1 (by decide)), hx.2⟩
  refine ⟨⟨?_, fun h0 => by simp at h0⟩, fun k b hk => ?_⟩
  · rw [attsL_snoc2, List.length_append, List.length_singleton]; exact ho
  · by_cases he : k = L.length
    · subst he
      have : (L ++ [a]).getD L.length Att.zero = a := by simp [List.getD_eq_getElem?_getD]
      rw [this]
      dsimp only
      rw [if_pos rfl]
      cases b
      · exact K hr
      · exact K hu
    · have hlt : k < L.length := by rw [List.length_append, List.length_singleton] at hk; omega
      have : (L ++ [a]).getD k Att.zero = L.getD k Att.zero := by rw [List.getD_eq_getElem?_getD, List.getElem?_append_left hlt, ← List.getD_eq_getElem?_getD]
      rw [this]
      dsimp only
      rw [if_neg he]
      exact K (h.2 k b hlt)
theorem pairs_at : ∀ {l : List (Int × Int)} {i : Nat} (h : i < l.length), (pairsL l)[i * 2]? = some (.int .i64 l[i].1) ∧ (pairsL l)[i * 2 + 1]? = some (.int .i64 l[i].2)
  | p :: l, 0, _ => ⟨rfl, rfl⟩
  | p :: l, i + 1, h => by
    have := pairs_at (l := l) (i := i) (by simpa using h)
    have e : pairsL (p :: l) = [.int .i64 p.1, .int .i64 p.2] ++ pairsL l := by unfold pairsL; rw [List.flatMap_cons]
    rw [e, List.getElem?_append_right (by simp; omega), List.getElem?_append_right (by simp; omega)]
    have e1 : (i + 1) * 2 - [Value.int .i64 p.1, Value.int .i64 p.2].length = i * 2 := by simp; omega
    have e2 : (i + 1) * 2 + 1 - [Value.int .i64 p.1, Value.int .i64 p.2].length = i * 2 + 1 := by simp; omega
    rw [e1, e2]; exact this
theorem rdP_own {W : World} {n₀ : Nat} {v : Value} {l : List (Int × Int)} (h : W.ownsRow n₀ 61 2 v l.length (pairsL l)) (hl : l.length ≤ 1048576) : RdP W l v := by
  have h0 := h
  rcases h.2 with ⟨rfl, hn⟩ | ⟨g, cap, cur, rfl, hb', hg, h1, h2, h3, h4⟩
  · exact ⟨none, 0, by rw [hn], hl, fun hne => absurd (List.eq_nil_of_length_eq_zero hn) hne⟩
  · refine ⟨_, cap, rfl, hl, fun _ => ⟨g, 0, rfl, fun k hk => ?_⟩⟩
    obtain ⟨e1, e2⟩ := pairs_at hk
    rw [Nat.zero_add]
    exact ⟨(h0.cellAt (k * 2) (by omega)).trans e1, (h0.cellAt (k * 2 + 1) (by omega)).trans e2⟩
theorem rdA_own {W : World} {n₀ : Nat} {v : Value} {L : List Att} {H : Nat → Bool → Value} (h1 : W.ownsRow n₀ 58 9 v L.length (attsL L H)) (h2 : ∀ k b, k < L.length → W.ownsRow n₀ 61 2 (H k b) (plB (L.getD k Att.zero) b).length (pairsL (plB (L.getD k Att.zero) b)))
    (hl : L.length ≤ 1048576) (hp : ∀ q ∈ L, q.reads.length ≤ 1048576 ∧ q.writes.length ≤ 1048576) : RdA W L v := by
  have h0 := h1
  rcases h1.2 with ⟨rfl, hn⟩ | ⟨g, cap, cur, rfl, hb', hg, q1, q2, q3, q4⟩
  · exact ⟨none, 0, by rw [hn], hl, fun hne => absurd (List.eq_nil_of_length_eq_zero hn) hne⟩
  · refine ⟨_, cap, rfl, hl, fun _ => ⟨g, 0, rfl, fun k hk => ⟨H k false, H k true, ?_⟩⟩⟩
    have hm := List.getElem_mem hk
    obtain ⟨m1, m2⟩ := hp _ hm
    have eD : L.getD k Att.zero = L[k] := by rw [List.getD_eq_getElem?_getD, List.getElem?_eq_getElem hk]; rfl
    have hr := h2 k false hk
    have hw := h2 k true hk
    rw [eD] at hr hw
    have hc : ∀ j, j < 9 → W.cell? ⟨g, 0 + k * 9 + j, none⟩ = (attL L[k] (H k false) (H k true))[j]? := fun j hj => by
      rw [Nat.zero_add, h0.cellAt (k * 9 + j) (by omega), attsL_get hk hj, eD]
    refine ⟨?_, hc 1 (by omega), hc 2 (by omega), hc 3 (by omega), hc 4 (by omega), hc 5 (by omega), hc 6 (by omega), hc 7 (by omega), hc 8 (by omega), rdP_own hr m1, rdP_own hw m2⟩
    have := hc 0 (by omega)
    rwa [Nat.add_zero] at this
/-- How long a fold's reads and writes are. -/
structure FB (f : FR) (n : Nat) : Prop where
  r : f.a.reads.length ≤ n
  u : f.a.writes.length ≤ n
  lk : 0 ≤ f.lk ∧ f.lk ≤ n
  gn : 0 ≤ f.gn ∧ f.gn ≤ n
theorem FB.step {f : FR} {n : Nat} (h : FB f n) (x : Ev) : FB (stF f x) (n + 1) := by
  obtain ⟨h1, h2, h3, h4⟩ := h
  unfold stF
  repeat' split
  all_goals (constructor <;> (first | omega | (simp; omega) | (dsimp only; omega)))
theorem FB.fold (l : List Ev) : ∀ (m : List Nat) (f : FR) (n : Nat), FB f n → FB (foldG l f m) (n + m.length)
  | [], f, n, h => h
  | i :: m, f, n, h => by
    have := FB.fold l m (stF f (evA0 l i)) (n + 1) (h.step _)
    rw [List.length_cons, show n + (m.length + 1) = n + 1 + m.length by omega]
    exact this
theorem FB.beg (l : List Ev) (b : Nat) (m : List Nat) : FB (foldG l (begF l b) m) m.length := by
  have h0 : FB (begF l b) 0 := by
    unfold begF newA
    constructor <;> simp
  have := FB.fold l m (begF l b) 0 h0
  rwa [Nat.zero_add] at this
theorem foldG_take {l : List Ev} {f : FR} {m : List Nat} {j : Nat} (hj : j < m.length) : foldG l f (m.take (j + 1)) = stF (foldG l f (m.take j)) (evA0 l m[j]) := by
  rw [List.take_succ_eq_append_getElem hj, foldG_snoc]
theorem mineP_len (l : List Ev) (b : Nat) : (mineP l b).length ≤ l.length := mineK_len l b l.length
theorem mineP_pos {l : List Ev} {b : Nat} (hb : b < l.length) (hk : (evA0 l b).kind = 1) : 0 < (mineP l b).length :=
  List.length_pos_of_mem (mem_mineP.2 ⟨hb, isM_iff.2 ⟨Nat.le_refl _, rfl, by rw [hk]; decide, fun j a1 a2 => by omega⟩⟩)
theorem lastM_at {l : List Ev} {b : Nat} (h : 0 < (mineP l b).length) : lastM l b = (mineP l b)[(mineP l b).length - 1]'(by omega) := by
  unfold lastM
  rw [List.getLastD_eq_getLast?, List.getLast?_eq_getElem?, List.getElem?_eq_getElem (by omega)]; rfl
def ofK (l : List Ev) (k : Nat) : List Att := ((List.range k).filter (isB l)).map (attR l)
theorem ofK_no {l : List Ev} {k : Nat} (h : (evA0 l k).kind ≠ 1) : ofK l (k + 1) = ofK l k := by
  unfold ofK
  rw [List.range_succ, List.filter_append, List.filter_cons, List.filter_nil, if_neg (by unfold isB; simpa using h), List.append_nil]
theorem ofK_yes {l : List Ev} {k : Nat} (h : (evA0 l k).kind = 1) : ofK l (k + 1) = ofK l k ++ [attR l k] := by
  unfold ofK
  rw [List.range_succ, List.filter_append, List.filter_cons, List.filter_nil, if_pos (by unfold isB; simpa using h), List.map_append]; rfl
theorem ofK_len (l : List Ev) (k : Nat) : (ofK l k).length ≤ k := by
  unfold ofK
  rw [List.length_map]
  have := List.length_filter_le (isB l) (List.range k)
  rwa [List.length_range] at this
theorem attR_len (l : List Ev) (b : Nat) : (attR l b).reads.length ≤ l.length ∧ (attR l b).writes.length ≤ l.length := by
  have h := FB.beg l b (mineP l b)
  have h2 := mineP_len l b
  exact ⟨Nat.le_trans h.r h2, Nat.le_trans h.u h2⟩
theorem foldG_to (l : List Ev) : ∀ (m : List Nat) (f : FR), (foldG l f m).a.to_ = f.a.to_
  | [], f => rfl
  | i :: m, f => by
    show (foldG l (stF f (evA0 l i)) m).a.to_ = _
    rw [foldG_to l m]
    unfold stF
    repeat' split
    all_goals rfl
theorem att_to {a : Att} (h : a.to_ = -1) : ({ a with to_ := -1 } : Att) = a := by rw [← h]
theorem attL_one (a : Att) (p q : Option Addr) (n c n' c' : Nat) : ∀ v ∈ attL a (.slice p n c) (.slice q n' c'), v.oneCell' = true := by
  intro v hv
  unfold attL at hv
  simp only [List.mem_cons, List.not_mem_nil, or_false] at hv
  rcases hv with rfl | rfl | rfl | rfl | rfl | rfl | rfl | rfl | rfl <;> rfl
end Go.Proofs.YtcddlnmcjmhbcaaDoor
/-
  Walk: seesawref25.Of: the attempts of a trace. (Printed: tools/gen_htw5.py.)
-/
namespace Go.Proofs.YtcddlnmcjmhbcaaDoor
set_option linter.unusedVariables false
set_option linter.unusedSimpArgs false
set_option linter.unusedVariables false
open Go Go.RowKit
theorem pairsL_one (l : List (Int × Int)) : ∀ u ∈ pairsL l, u.oneCell' = true := by
  intro u hu
  obtain ⟨p, -, hp⟩ := List.mem_flatMap.1 hu
  simp only [List.mem_cons, List.not_mem_nil, or_false] at hp
  rcases hp with rfl | rfl <;> rfl
def OfQ (T V S : Int) (l : List Ev) (w : World) (e : Ending) (w' : World) : Prop :=
  ∃ v, e = .returned (.tuple #[v, .int .i64 (checkT T V S l).2]) ∧ Below w.heap.size w w' ∧ RdA w' (if (checkT T V S l).2 = 0 then ofR l else []) v
set_option maxRecDepth 100000 in
set_option maxHeartbeats 40000000 in
theorem rof_any (T V S : Int) (a : Option Addr) (l : List Ev) (cap : Nat) (w : World) (hE : EvsAt w a l) (hl : l.length ≤ 2000) (hcap : l.length ≤ cap) (hN : NamesR w) :
    Calls Tryd.prog 9 #[trA T V S a l.length cap] w (OfQ T V S l w) := by
  obtain ⟨i2, hi2, hx0, hx1, hx2⟩ := info_parts infoPair
  obtain ⟨i9, hi9, hy0, hy1, hy2⟩ := info_parts infoAtt
  obtain ⟨W0, hW0⟩ : ∃ W0, W0 = w.alloc (.cells #[.int .i64 T, .int .i64 V, .int .i64 S, .slice a l.length cap] 24) := ⟨_, rfl⟩
  have HBX : Hid (Blk W0 w.heap.size #[.int .i64 T, .int .i64 V, .int .i64 S, .slice a l.length cap] 24) := hid (by rw [hW0]; exact Blk.new _ _ _)
  have HB0 : Hid (Below w.heap.size w W0) := hid (by rw [hW0]; exact ext_alloc (ext_refl _) _)
  have HCK := hid (fun W (hW : Below w.heap.size w W) => refcheck_any T V S a l cap W (hE.below hW) (by omega) hcap (hN.below hW))
  have HMN := hid (fun W (hW : Below w.heap.size w W) b hb => mine25_any T V S a l cap W (hE.below hW) (by omega) b hb)
  have HE := hid hE
  have HL := hid hl
  obtain ⟨Q, hQ⟩ : ∃ Q, Q = OfQ T V S l w := ⟨_, rfl⟩
  obtain ⟨p, q, hpq⟩ : ∃ p q, checkT T V S l = (p, q) := ⟨_, _, rfl⟩
  have HP : Hid (∀ v W', Below w.heap.size w W' → RdA W' (if q = 0 then ofR l else []) v → Q (.returned (.tuple #[v, .int .i64 q])) W') := hid (by
    intro v W' h1 h2
    rw [hQ]
    refine ⟨v, by rw [hpq], h1, by rw [hpq]; exact h2⟩)
  rw [← hQ]
  rw [hpq] at HCK
  clear hE hl hcap hN hQ hpq
  unfold trA at *
  dsimp only at HCK
  go_enter Tryd.func9, Tryd.ntmps9
  go_wp2_with fail
  rw [← hW0]
  clear hW0
  refine (HCK.out _ HB0.out).mono ?_
  rintro e' w1 ⟨rfl, hb1⟩
  have HB1 := hid (ext_trans HB0.out hb1)
  have HBX1 := hid (HBX.out.below hb1)
  clear hb1 HBX HCK
  by_cases hq : q = 0
  case neg =>
    have q1 : (q == 0) = false := by simpa using hq
    have q2 : (q != 0) = true := by simpa using hq
    have HQ := hid hq
    clear hq
    go_wp2_with fail
    exact HP.out _ _ HB1.out (by rw [if_neg HQ.out]; exact ⟨none, 0, rfl, by simp, fun h => absurd rfl h⟩)
  subst hq
  go_wp2_with fail
  go_loopw [6, 7] (fun y i wr => ∃ (k : Nat) (H : Nat → Bool → Value), k ≤ l.length ∧ i = .int .i64 (k : Int) ∧ Hid (AtsM wr w1.heap.size y (ofK l k) H) ∧ Hid (Below w1.heap.size w1 wr)) (fun _ i _ => l.length - (intOf i).toNat)
  case atStart => exact ⟨0, fun _ _ => undef, Nat.zero_le _, rfl, hid (AtsM.nil _ _ _), hid (ext_refl _)⟩
  case round =>
    obtain ⟨k, H, hk, rfl, HAT, HBR⟩ := hrel
    obtain ⟨Wk, rfl⟩ : ∃ W, W = wr := ⟨_, rfl⟩
    obtain ⟨py, cy, hyv⟩ := HAT.out.1.shape
    subst hyv
    have y0 := (HBX1.out.below HBR.out).cell 0 (v := .int .i64 T) rfl
    have y1 := (HBX1.out.below HBR.out).cell 1 (v := .int .i64 V) rfl
    have y2 := (HBX1.out.below HBR.out).cell 2 (v := .int .i64 S) rfl
    have y3 := (HBX1.out.below HBR.out).cell 3 (v := .slice a l.length cap) rfl
    by_cases hlt : k < l.length
    case neg =>
      obtain rfl : k = l.length := by omega
      have hk1 : decide ((l.length : Int) < (l.length : Int)) = false := decide_eq_false (by omega)
      clear hlt hk
      go_wp2_with fail
      refine HP.out (.slice py (ofK l l.length).length cy) _ (ext_trans HB1.out HBR.out) ?_
      rw [if_pos trivial]
      have h1 := HAT.out
      have h2 := ofK_len l l.length
      exact rdA_own h1.1.1 (fun k b hk => (h1.2 k b hk).1) (by have := HL.out; show (ofK l l.length).length ≤ _; omega) (fun q hq => by
        obtain ⟨b, -, rfl⟩ := List.mem_map.1 hq
        have := attR_len l b
        have := HL.out
        omega)
    obtain ⟨bl, o, rfl, hc⟩ := ev7 HE.out (by intro h; rw [h] at hlt; simp at hlt)
    obtain ⟨c0, c1, c2, c3, c4, c5, c6⟩ := hc Wk (ext_trans HB1.out HBR.out) k hlt
    have HC := hid hc
    have HK : Hid (evA0 l k = l[k]) := hid (evA0_at hlt)
    generalize l[k] = x at c0 c1 c2 c3 c4 c5 c6 HK
    obtain ⟨kind, eth, etx, eat, ev, ex, ewhy⟩ := x
    dsimp only at c0 c1 c2 c3 c4 c5 c6
    have hk0 : (0 : Int) ≤ (k : Int) := by omega
    have hk1 : decide ((k : Int) < (l.length : Int)) = true := decide_eq_true (by omega)
    have hk3 : decide (k < l.length) = true := decide_eq_true hlt
    have hk5 : (k : Int) < (l.length : Int) := by omega
    have hk4 : IntKind.i64.wrap ((k : Int) + 1) = (k : Int) + 1 := IntWalk.i64_in _ (by have := HL.out; omega)
    have HK4' := hid hk4
    have HLT := hid hlt
    clear hlt hk hc
    by_cases t : kind = 1
    case neg =>
      have x1 : (kind == 1) = false := by simp [t]
      have x2 : (kind != 1) = true := by simp [t]
      have HZ := hid (ofK_no (l := l) (k := k) (by rw [HK.out]; exact t))
      clear t
      go_wp2_with fail
      go_roundw
      case rel => exact ⟨k + 1, H, HLT.out, by go_num, hid (by rw [HZ.out]; exact HAT.out.old (ext_alloc (ext_refl _) _)), hid (ext_alloc HBR.out _)⟩
      case measure => simp [intOf]; have := HLT.out; omega
    subst t
    have x1 : ((1 : Int) == 1) = true := rfl
    have HZ := hid (ofK_yes (l := l) (k := k) (by rw [HK.out]))
    have HMP := hid (mineP_pos (l := l) (b := k) HLT.out (by rw [HK.out]))
    have HMLN := hid (mineP_len l k)
    have HLM : Hid ((mineP l k)[(mineP l k).length - 1]? = some (lastM l k)) := hid (by rw [List.getElem?_eq_getElem (by have := HMP.out; omega), lastM_at HMP.out])
    have HF0 : Hid (begF l k = ⟨⟨eth, etx, k, -1, ev, 0, false, [], []⟩, 0, 0⟩) := hid (by unfold begF newA; rw [HK.out])
    have HMB : Hid (∀ i ∈ mineP l k, i < l.length) := hid (fun i hi => (mem_mineP.1 hi).1)
    have ly := lt_of_cell y0
    go_wp2_with fail
    obtain ⟨WA, hWA⟩ : ∃ WA, WA = (Wk.alloc (.cells #[.int .u8 1, .int .i64 eth, .int .i64 etx, .int .i64 eat, .int .i64 ev, .int .i64 ex, .int .u8 ewhy] 49)).alloc (.cells #[.int .i64 eth, .int .i64 etx, .int .i64 (k : Int), .int .i64 (-1), .int .i64 ev, .int .i64 0, .bool false, .slice none 0 0, .slice none 0 0] 58) := ⟨_, rfl⟩
    obtain ⟨A, hA⟩ : ∃ A, A = Wk.heap.size + 1 := ⟨_, rfl⟩
    have HKA : Hid (Blk WA A #[.int .i64 eth, .int .i64 etx, .int .i64 (k : Int), .int .i64 (-1), .int .i64 ev, .int .i64 0, .bool false, .slice none 0 0, .slice none 0 0] 58) := hid (by rw [hWA, hA]; exact Blk.new' _ _ _ (by rw [World.size_alloc]))
    have HBA : Hid (Below Wk.heap.size Wk WA) := hid (by rw [hWA]; exact ext_alloc (ext_alloc (ext_refl _) _) _)
    have HSA : Hid (WA.heap.size = A + 1) := hid (by rw [hWA, hA, World.size_alloc, World.size_alloc])
    rw [← hWA, ← hA]
    have HAE := hid hA
    clear hWA hA
    refine (HMN.out WA (ext_trans HB1.out (ext_trans HBR.out HBA.out)) k HLT.out).mono ?_
    rintro e' w5 ⟨v, rfl, hb5, hr⟩
    obtain ⟨g, cg, rfl, hg, hcg⟩ := rowM_cells hr HMP.out
    have HGA : Hid (g ≠ A) := hid (by have := HSA.out; omega)
    have HKA5 := hid (HKA.out.below hb5)
    have HBA5 := hid (ext_trans HBA.out hb5)
    have HS5 : Hid (A < w5.heap.size) := hid (by have := HSA.out; have := hb5.size; omega)
    have HGL : Hid (g < w5.heap.size) := hid (lt_of_cell (hcg 0 HMP.out))
    have HCG := hid hcg
    have HR0 : Hid (attR l k = { (foldG l (begF l k) (mineP l k)).a with to_ := if endR (evA0 l (lastM l k)).kind (foldG l (begF l k) (mineP l k)).lk (foldG l (begF l k) (mineP l k)).gn = true then (lastM l k : Int) else -1 }) := hid rfl
    have HLL : Hid (lastM l k < l.length) := hid (HMB.out _ (List.mem_of_getElem? HLM.out))
    clear hb5 hr hg hcg c0 c1 c2 c3 c4 c5 c6 y0 y1 y2 y3 ly HKA HBA HSA hk0 hk1 hk3 hk5 hk4 x1 HK
    generalize mineP l k = m at *
    go_wp2_with fail
    go_loopw [11, 12, 13] (fun s1 s2 i wq => ∃ (j : Nat) (r u : Value), j ≤ m.length ∧ i = .int .i64 (j : Int) ∧ s1 = .int .i64 (foldG l (begF l k) (m.take j)).lk ∧ s2 = .int .i64 (foldG l (begF l k) (m.take j)).gn ∧ Hid (Blk wq A (attV (foldG l (begF l k) (m.take j)).a r u) 58) ∧ Hid (RowM wq (A + 1) 61 2 r (foldG l (begF l k) (m.take j)).a.reads.length (pairsL (foldG l (begF l k) (m.take j)).a.reads)) ∧ Hid (RowM wq (A + 1) 61 2 u (foldG l (begF l k) (m.take j)).a.writes.length (pairsL (foldG l (begF l k) (m.take j)).a.writes)) ∧ Hid (Turn [A] w5 wq) ∧ Hid (Below Wk.heap.size Wk wq)) (fun _ _ i _ => m.length - (intOf i).toNat)
    case atStart =>
      have h0 : foldG l (begF l k) (m.take 0) = begF l k := rfl
      refine ⟨0, .slice none 0 0, .slice none 0 0, Nat.zero_le _, rfl, by rw [h0, HF0.out], by rw [h0, HF0.out], hid ?_, hid ?_, hid ?_, hid (Turn.refl _ _), HBA5⟩
      · rw [h0, HF0.out]; exact HKA5.out
      · rw [h0, HF0.out]; exact RowM.nil _ _ _ _
      · rw [h0, HF0.out]; exact RowM.nil _ _ _ _
    case round =>
      clear HKA5 HBA5
      obtain ⟨j, r, u, hj, rfl, rfl, rfl, HKQ, HRR, HRU, HTQ, HBQ⟩ := hrel
      obtain ⟨ra, rca, hrv⟩ := HRR.out.shape
      obtain ⟨ua, uca, huv⟩ := HRU.out.shape
      subst hrv huv
      have y3 := (HBX1.out.below (ext_trans HBR.out HBQ.out)).cell 3 (v := .slice (some ⟨bl, o, none⟩) l.length cap) rfl
      by_cases hjl : j < m.length
      · have r0 := HTQ.out.cell (k := g) (o := j) (by simpa using HGA.out) (HCG.out j hjl)
        have HX : Hid (m[j] < l.length) := hid (HMB.out _ (List.getElem_mem hjl))
        have HFS := hid (foldG_take (l := l) (f := begF l k) hjl)
        have HFB : Hid (FB (foldG l (begF l k) (m.take j)) j) := hid (by have := FB.beg l k (m.take j); rwa [List.length_take, Nat.min_eq_left hj] at this)
        generalize m[j] = x at r0 HX HFS
        obtain ⟨d0, d1, d2, d3, d4, d5, d6⟩ := HC.out wr (ext_trans HB1.out (ext_trans HBR.out HBQ.out)) x HX.out
        have HEX : Hid (evA0 l x = l[x]'HX.out) := hid (evA0_at HX.out)
        generalize l[x]'HX.out = X at d0 d1 d2 d3 d4 d5 d6 HEX
        obtain ⟨kd, th', tx', at', v', x', why'⟩ := X
        dsimp only at d0 d1 d2 d3 d4 d5 d6
        rw [HEX.out] at HFS
        generalize foldG l (begF l k) (m.take j) = f at *
        have j0 : (0 : Int) ≤ (j : Int) := by omega
        have j1 : decide ((j : Int) < (m.length : Int)) = true := decide_eq_true (by omega)
        have j2 : decide (j < m.length) = true := decide_eq_true hjl
        have j3 : (j : Int) < (m.length : Int) := by omega
        have J4 : Hid (IntKind.i64.wrap ((j : Int) + 1) = (j : Int) + 1) := hid (IntWalk.i64_in _ (by have := HMLN.out; have := HL.out; omega))
        have HJB : Hid (j ≤ 2000) := hid (by have := HMLN.out; have := HL.out; omega)
        have v0 : (0 : Int) ≤ (x : Int) := by omega
        have v1 : (x : Int) < (l.length : Int) := by have := HX.out; omega
        have v2 : decide (x < l.length) = true := decide_eq_true HX.out
        have HJ := hid hjl
        clear hjl hj
        go_wp2_with fail
        apply wp_region_inv' (By wr 8 (fun i => [.pointer (some ⟨w.heap.size, 3, none⟩), .slice (some ⟨bl, o, none⟩) l.length cap, .slice (some ⟨g, 0, none⟩) m.length cg, .int .i64 (j : Int), .pointer (some ⟨g, j, none⟩), .int .i64 (x : Int), .pointer (some ⟨bl, o + x * 7, none⟩), .agg #[.int .u8 kd, .int .i64 th', .int .i64 tx', .int .i64 at', .int .i64 v', .int .i64 x', .int .u8 why']].getD i undef) #[.int .u8 kd, .int .i64 th', .int .i64 tx', .int .i64 at', .int .i64 v', .int .i64 x', .int .u8 why'] 49)
        focus (intro vals; simp [putAll, dstOf, Act.put]; rfl)
        case hm => kernel_rfl
        case hd => kernel_rfl
        case hb => kernel_rfl
        case hng => kernel_rfl
        case hsz => kernel_rfl
        case hext => exact fun l l' v w' h H => H.ext h
        case h0 => exact By.start (ext_drew (ext_refl _))
        case hstep =>
          refine ⟨?_, ?_, ?_, ?_, ?_, ?_, ?_, ?_, ?_, ?_, trivial⟩
          all_goals (
            intro l1 vs w' hi hd hJ
            refine ⟨(fun g b h => by cases h), fun _ ρ h1 h2 h3 h4 h5 => ?_⟩)
          · have f1 := h5 1 (by kernel_rfl)
            have HJ' := hid hJ
            clear hJ
            unfold OpY
            go_simp
            exact By.get 0 (by omega) HJ'.out
          · have fa := (h4 0 57 (by kernel_rfl) (by kernel_rfl)).trans (hJ.knw 0 (by omega) (hd 0 (by kernel_rfl)))
            dsimp only [List.getD, List.getElem?_cons_zero, List.getElem?_cons_succ, Option.getD] at fa
            have z3 := later hJ.mid y3
            have HJ' := hid hJ
            clear hJ
            unfold OpY
            go_simp
            exact By.get 1 (by omega) HJ'.out
          · have f1 := h5 10 (by kernel_rfl)
            have HJ' := hid hJ
            clear hJ
            unfold OpY
            go_simp
            exact By.get 2 (by omega) HJ'.out
          · have f1 := h5 13 (by kernel_rfl)
            have HJ' := hid hJ
            clear hJ
            unfold OpY
            go_simp
            exact By.get 3 (by omega) HJ'.out
          · have fa := (h4 2 59 (by kernel_rfl) (by kernel_rfl)).trans (hJ.knw 2 (by omega) (hd 2 (by kernel_rfl)))
            have fb := (h4 3 60 (by kernel_rfl) (by kernel_rfl)).trans (hJ.knw 3 (by omega) (hd 3 (by kernel_rfl)))
            dsimp only [List.getD, List.getElem?_cons_zero, List.getElem?_cons_succ, Option.getD] at fa fb
            have HJ' := hid hJ
            clear hJ
            unfold OpY
            go_simp
            exact By.get 4 (by omega) HJ'.out
          · have fa := (h4 4 61 (by kernel_rfl) (by kernel_rfl)).trans (hJ.knw 4 (by omega) (hd 4 (by kernel_rfl)))
            dsimp only [List.getD, List.getElem?_cons_zero, List.getElem?_cons_succ, Option.getD] at fa
            have z3 := later hJ.mid r0
            have HJ' := hid hJ
            clear hJ
            unfold OpY
            go_simp
            exact By.get 5 (by omega) HJ'.out
          · have fa := (h4 1 58 (by kernel_rfl) (by kernel_rfl)).trans (hJ.knw 1 (by omega) (hd 1 (by kernel_rfl)))
            have fb := (h4 5 62 (by kernel_rfl) (by kernel_rfl)).trans (hJ.knw 5 (by omega) (hd 5 (by kernel_rfl)))
            dsimp only [List.getD, List.getElem?_cons_zero, List.getElem?_cons_succ, Option.getD] at fa fb
            have HJ' := hid hJ
            clear hJ
            unfold OpY
            go_simp
            exact By.get 6 (by omega) HJ'.out
          · have fa := (h4 6 63 (by kernel_rfl) (by kernel_rfl)).trans (hJ.knw 6 (by omega) (hd 6 (by kernel_rfl)))
            dsimp only [List.getD, List.getElem?_cons_zero, List.getElem?_cons_succ, Option.getD] at fa
            have x0 := later hJ.mid d0
            have x1 := later hJ.mid d1
            have x2 := later hJ.mid d2
            have x3 := later hJ.mid d3
            have x4 := later hJ.mid d4
            have x5 := later hJ.mid d5
            have x6 := later hJ.mid d6
            have HJ' := hid hJ
            clear hJ
            unfold OpY
            go_simp
            exact By.get 7 (by omega) HJ'.out
          · skip
            have HJ' := hid hJ
            clear hJ
            unfold OpY
            go_simp
            exact By.alloc rfl hi HJ'.out
          · have g1 := hd 8 (by kernel_rfl)
            have g2 := hJ.knw 7 (by omega) (hd 7 (by kernel_rfl))
            obtain ⟨b, cs, g3, g4, g5, g6, -⟩ := hJ.als g1
            obtain ⟨z0, z1, z2, z3, z4, z5, z6, rfl⟩ := arrE7 g6
            have f1 := (h4 8 14 (by kernel_rfl) (by kernel_rfl)).trans g3
            have f2 := (h4 7 64 (by kernel_rfl) (by kernel_rfl)).trans g2
            dsimp only [List.getD, List.getElem?_cons_zero, List.getElem?_cons_succ, Option.getD] at f2
            have HH := hid g5
            have s0 := HH.out.free 0
            have s1 := HH.out.free 1
            have s2 := HH.out.free 2
            have s3 := HH.out.free 3
            have s4 := HH.out.free 4
            have s5 := HH.out.free 5
            have s6 := HH.out.free 6
            have t0 := HH.out.cell 0 (v := z0) rfl
            have t1 := HH.out.cell 1 (v := z1) rfl
            have t2 := HH.out.cell 2 (v := z2) rfl
            have t3 := HH.out.cell 3 (v := z3) rfl
            have t4 := HH.out.cell 4 (v := z4) rfl
            have t5 := HH.out.cell 5 (v := z5) rfl
            have t6 := HH.out.cell 6 (v := z6) rfl
            have G3 := hid g3
            clear g2 g3 g5
            have HJ' := hid hJ
            clear hJ
            unfold OpY
            go_simp
            exact By.store b rfl g1 G3.out HJ'.out
        case hdone =>
          intro vs w6 hJ
          obtain ⟨b0, cs0, e0, g0, k0, -, z0⟩ := hJ.als rfl
          obtain rfl := z0 rfl
          have e0 : vs 8 = _ := e0
          rw [e0]
          have HMID := hid hJ.mid
          have HEV : Hid (Blk w6 b0 #[.int .u8 kd, .int .i64 th', .int .i64 tx', .int .i64 at', .int .i64 v', .int .i64 x', .int .u8 why'] 49) := hid k0
          have q0 := HEV.out.cell 0 (v := .int .u8 kd) rfl
          have q3 := HEV.out.cell 3 (v := .int .i64 at') rfl
          have q5 := HEV.out.cell 5 (v := .int .i64 x') rfl
          have lq := HEV.out.lt
          clear hJ e0 k0 z0 d0 d1 d2 d3 d4 d5 d6 r0 y3 v0 v1 v2 j0 j1 j2 j3
          go_upto_block 4 with (fail)
          obtain ⟨W7, hW7⟩ : ∃ W7, W7 = w6.alloc (.cells #[.int .i64 at', .int .i64 x'] 61) := ⟨_, rfl⟩
          obtain ⟨B7, hB7⟩ : ∃ B7, B7 = w6.heap.size := ⟨_, rfl⟩
          have HPV : Hid (Blk W7 B7 #[.int .i64 at', .int .i64 x'] 61) := hid (by rw [hW7, hB7]; exact Blk.new _ _ _)
          have hbe : Below wr.heap.size wr W7 := by rw [hW7]; exact ext_alloc HMID.out _
          have HE7 : Hid (Blk W7 b0 #[.int .u8 kd, .int .i64 th', .int .i64 tx', .int .i64 at', .int .i64 v', .int .i64 x', .int .u8 why'] 49) := hid (by rw [hW7]; exact HEV.out.alloc _)
          have HK7 := hid (HKQ.out.below hbe)
          unfold attV at HK7
          have HR7 := hid (HRR.out.old hbe)
          have HU7 := hid (HRU.out.old hbe)
          have HT7 := hid (HTQ.out.trans (Turn.of_below hbe))
          have HB7 := hid (ext_trans HBQ.out hbe)
          have HW7 : Hid (A + 1 ≤ W7.heap.size) := hid (by have := HKQ.out.lt; have := hbe.size; omega)
          rw [← hW7, ← hB7]
          clear hW7 hB7 hbe q0 q3 q5 lq HEV HMID HKQ HRR HRU HTQ HBQ
          have j4 := J4.out
          by_cases k3 : kd = 3
          · subst k3
            have HFS2 : Hid (foldG l (begF l k) (m.take (j + 1)) = { f with a := { f.a with reads := f.a.reads ++ [(at', x')] } }) := hid (by rw [HFS.out]; unfold stF; simp)
            have HNL : Hid (f.a.reads.length ≤ 1048576) := hid (by have := HFB.out.r; have := HJB.out; omega)
            go_wp2_with fail
            apply wp_region_appM A 7 61 2 (#[.int .i64 f.a.th, .int .i64 f.a.tx, .int .i64 f.a.from_, .int .i64 f.a.to_, .int .i64 f.a.rv, .int .i64 f.a.wv, .bool f.a.com, .slice ra f.a.reads.length rca, .slice ua f.a.writes.length uca]) 58 (f.a.reads.length) (pairsL f.a.reads) [.int .i64 at', .int .i64 x'] [1, 2, 4, 7] (fun i => if i = 1 then .pointer (some ⟨A, 7, none⟩) else if i = 2 then .slice ra f.a.reads.length rca else if i = 4 then .agg #[.int .i64 at', .int .i64 x'] else .pointer (some ⟨A, 7, none⟩)) 0 3 5 6 8
            case hp => exact ⟨by decide, by decide, by decide⟩
            focus (intro vals; simp [putAll, dstOf, Act.put]; rfl)
            case hm => kernel_rfl
            case hd => kernel_rfl
            case hb => kernel_rfl
            case hng => kernel_rfl
            case hsz => kernel_rfl
            case h12 => kernel_rfl
            case hstep =>
              refine ⟨?_, ?_, ?_, ?_, ?_, ?_, ?_, ?_, ?_, trivial⟩
              all_goals (
                intro l1 vz w' hi hd hJ
                refine ⟨(fun g b h => by cases h), fun _ ρ h1 h2 h3 h4 h5 => ?_⟩
                have HQ := hid hJ
                clear hJ)
              · have hlow := HQ.out.low (HQ.out.not (by omega) hi)
                clear h4 h5
                unfold OpY
                go_simp
                exact HQ.out.put ⟨by decide, by decide, by decide⟩ 0 (by decide) hi (ext_alloc (ext_refl _) _) (fun h => absurd h (by decide)) (fun _ => ⟨_, rfl, World.ownsRow_made w' #[] 0 hlow.size (by decide) rfl⟩) (fun h => absurd h (by decide)) (fun h => absurd h (by decide))
              · have f9 := h5 9 (by kernel_rfl)
                clear h4 h5
                unfold OpY
                go_simp
                exact HQ.out.put ⟨by decide, by decide, by decide⟩ 1 (by decide) hi (ext_refl _) (fun _ => rfl) (fun h => absurd h (by decide)) (fun h => absurd h (by decide)) (fun h => absurd h (by decide))
              · have hlow := HQ.out.low (HQ.out.not (by omega) hi)
                have c := (HK7.out.below hlow).cell 7 (v := .slice ra f.a.reads.length rca) rfl
                have f75 : ρ (.tmp 75) = (.pointer (some ⟨A, 7, none⟩)) := (h4 1 75 (by kernel_rfl) (by kernel_rfl)).trans (HQ.out.kn 1 (by decide) (hd 1 (by kernel_rfl)))
                clear h4 h5
                unfold OpY
                go_simp
                exact HQ.out.put ⟨by decide, by decide, by decide⟩ 2 (by decide) hi (ext_refl _) (fun _ => rfl) (fun h => absurd h (by decide)) (fun h => absurd h (by decide)) (fun h => absurd h (by decide))
              · have hlow := HQ.out.low (HQ.out.not (by omega) hi)
                obtain ⟨g1, hv1, hown⟩ := HQ.out.e1 (hd 0 (by kernel_rfl)) hi
                have f1 := (h4 0 74 (by kernel_rfl) (by kernel_rfl)).trans hv1
                have f4 : ρ (.tmp 76) = (.slice ra f.a.reads.length rca) := (h4 2 76 (by kernel_rfl) (by kernel_rfl)).trans (HQ.out.kn 2 (by decide) (hd 2 (by kernel_rfl)))
                rw [hv1] at hown
                obtain ⟨v', w'', hrun, hb', hown'⟩ := run_appM w' W7.heap.size 56 56 61 i2 _ 2 16 Tryd.underlying56 hi2 hx0 hx1 hx2 rfl (by decide) ⟨g1, 0, none⟩ hown (.slice ra f.a.reads.length rca) _ _ (HR7.out.old hlow) (pairsL_one _) (by have := HNL.out; unfold maxLen; omega) (by have := HNL.out; omega) hlow.size
                refine opY_append rfl f1 f4 hrun ?_
                exact HQ.out.put ⟨by decide, by decide, by decide⟩ 3 (by decide) hi hb' (fun h => absurd h (by decide)) (fun h => absurd h (by decide)) (fun _ => hown') (fun h => absurd h (by decide))
              · have hlow := HQ.out.low (HQ.out.not (by omega) hi)
                have hq := HPV.out.below hlow
                have c0 := hq.cell 0 rfl
                have c1 := hq.cell 1 rfl
                clear hq
                have f15 := h5 15 (by kernel_rfl)
                clear h4 h5
                unfold OpY
                go_simp
                exact HQ.out.put ⟨by decide, by decide, by decide⟩ 4 (by decide) hi (ext_refl _) (fun _ => rfl) (fun h => absurd h (by decide)) (fun h => absurd h (by decide)) (fun h => absurd h (by decide))
              · have f78 : ρ (.tmp 78) = (.agg #[.int .i64 at', .int .i64 x']) := (h4 4 78 (by kernel_rfl) (by kernel_rfl)).trans (HQ.out.kn 4 (by decide) (hd 4 (by kernel_rfl)))
                clear h4 h5
                unfold OpY
                go_simp
                exact HQ.out.put ⟨by decide, by decide, by decide⟩ 5 (by decide) hi (ext_alloc (ext_refl _) _) (fun h => absurd h (by decide)) (fun h => absurd h (by decide)) (fun h => absurd h (by decide)) (fun _ => ⟨_, rfl, fun j u hu => (Blk.new _ _ _).cell j (by simpa using hu)⟩)
              · have hlow := HQ.out.low (HQ.out.not (by omega) hi)
                obtain ⟨g8, hv8, c8⟩ := HQ.out.e8 (hd 5 (by kernel_rfl)) hi
                have e5 := HQ.out.e5 (hd 3 (by kernel_rfl)) hi
                have f5 : ρ (.tmp 77) = vz 3 := h4 3 77 (by kernel_rfl) (by kernel_rfl)
                have f8 := (h4 5 79 (by kernel_rfl) (by kernel_rfl)).trans hv8
                obtain ⟨v', w'', hrun, hown', hg, -, -⟩ := run_append_own_at w' W7.heap.size 56 56 61 i2 _ 2 16 Tryd.underlying56 hi2 hx0 hx1 hx2 rfl (by decide) (vz 3) _ _ e5 ⟨g8, 0, none⟩ 1 1 [.int .i64 at', .int .i64 x'] rfl (fun j u hu => by rw [add0]; exact c8 j u hu) (by intro u hu; simp at hu; rcases hu with rfl | rfl <;> rfl) (by have := HNL.out; unfold maxLen; omega) (by have := HNL.out; omega) hlow.size
                refine opY_append rfl f5 f8 hrun ?_
                exact HQ.out.putC ⟨by decide, by decide, by decide⟩ hi (hd 3 (by kernel_rfl)) hg hown'
              · have f9 := h5 9 (by kernel_rfl)
                clear h4 h5
                unfold OpY
                go_simp
                exact HQ.out.put ⟨by decide, by decide, by decide⟩ 7 (by decide) hi (ext_refl _) (fun _ => rfl) (fun h => absurd h (by decide)) (fun h => absurd h (by decide)) (fun h => absurd h (by decide))
              · have hlow := HQ.out.low hi
                have hq := HK7.out.below hlow
                have c := hq.cell 7 (v := .slice ra f.a.reads.length rca) rfl
                have z := hq.free 7
                clear hq
                have f10 : ρ (.tmp 81) = (.pointer (some ⟨A, 7, none⟩)) := (h4 7 81 (by kernel_rfl) (by kernel_rfl)).trans (HQ.out.kn 7 (by decide) (hd 7 (by kernel_rfl)))
                obtain ⟨g9, c9, hv9⟩ := own_form (HQ.out.e9 (hd 6 (by kernel_rfl)) hi)
                have f9 := (h4 6 80 (by kernel_rfl) (by kernel_rfl)).trans hv9
                have HV9 := hid hv9
                clear hv9
                have hall : ∀ i, i < 8 → l1 i = true := fun i hi => by
                  rcases i with _ | _ | _ | _ | _ | _ | _ | _ | i
                  · exact hd 0 (by kernel_rfl)
                  · exact hd 1 (by kernel_rfl)
                  · exact hd 2 (by kernel_rfl)
                  · exact hd 3 (by kernel_rfl)
                  · exact hd 4 (by kernel_rfl)
                  · exact hd 5 (by kernel_rfl)
                  · exact hd 6 (by kernel_rfl)
                  · exact hd 7 (by kernel_rfl)
                  · omega
                have HALL := hid hall
                clear hall h4 h5
                unfold OpY
                go_simp
                have h := HQ.out.putS ⟨by decide, by decide, by decide⟩ HK7.out hi HALL.out
                rw [HV9.out] at h
                exact h
            case hdone =>
              rintro vals W9 ⟨v9, hT9, hB9, hR9⟩
              have HK9 : Hid (Blk W9 A (attV { f.a with reads := f.a.reads ++ [(at', x')] } v9 (.slice ua f.a.writes.length uca)) 58) := hid (by simpa [attV] using hB9)
              have HR9 : Hid (RowM W9 (A + 1) 61 2 v9 (f.a.reads ++ [(at', x')]).length (pairsL (f.a.reads ++ [(at', x')]))) := hid (by have := hR9.wider (base' := A + 1) HW7.out; rw [pairsL_snoc, List.length_append]; exact this)
              have HU9 := hid (HU7.out.turn hT9 (by simp))
              have HT9 := hid (HT7.out.trans hT9)
              have HB9 := hid (HB7.out.trans (hT9.below (B := Wk.heap.size) (by have := HAE.out; simp; omega) (by have := HB7.out.size; omega)))
              clear hT9 hB9 hR9 HK7 HR7 HU7 HT7 HB7
              go_wp2_with fail
              go_roundw
              case rel => exact ⟨j + 1, v9, _, HJ.out, by go_num, by rw [HFS2.out], by rw [HFS2.out], hid (by rw [HFS2.out]; exact HK9.out), hid (by rw [HFS2.out]; exact HR9.out), hid (by rw [HFS2.out]; exact HU9.out), HT9, HB9⟩
              case measure => simp [intOf]; have := HJ.out; omega
          by_cases k8 : kd = 8
          · subst k8
            have HFS2 : Hid (foldG l (begF l k) (m.take (j + 1)) = { f with a := { f.a with writes := f.a.writes ++ [(at', x')] } }) := hid (by rw [HFS.out]; unfold stF; simp)
            have HNL : Hid (f.a.writes.length ≤ 1048576) := hid (by have := HFB.out.u; have := HJB.out; omega)
            go_wp2_with fail
            apply wp_region_appM A 8 61 2 (#[.int .i64 f.a.th, .int .i64 f.a.tx, .int .i64 f.a.from_, .int .i64 f.a.to_, .int .i64 f.a.rv, .int .i64 f.a.wv, .bool f.a.com, .slice ra f.a.reads.length rca, .slice ua f.a.writes.length uca]) 58 (f.a.writes.length) (pairsL f.a.writes) [.int .i64 at', .int .i64 x'] [1, 2, 4, 7] (fun i => if i = 1 then .pointer (some ⟨A, 8, none⟩) else if i = 2 then .slice ua f.a.writes.length uca else if i = 4 then .agg #[.int .i64 at', .int .i64 x'] else .pointer (some ⟨A, 8, none⟩)) 0 3 5 6 8
            case hp => exact ⟨by decide, by decide, by decide⟩
            focus (intro vals; simp [putAll, dstOf, Act.put]; rfl)
            case hm => kernel_rfl
            case hd => kernel_rfl
            case hb => kernel_rfl
            case hng => kernel_rfl
            case hsz => kernel_rfl
            case h12 => kernel_rfl
            case hstep =>
              refine ⟨?_, ?_, ?_, ?_, ?_, ?_, ?_, ?_, ?_, trivial⟩
              all_goals (
                intro l1 vz w' hi hd hJ
                refine ⟨(fun g b h => by cases h), fun _ ρ h1 h2 h3 h4 h5 => ?_⟩
                have HQ := hid hJ
                clear hJ)
              · have hlow := HQ.out.low (HQ.out.not (by omega) hi)
                clear h4 h5
                unfold OpY
                go_simp
                exact HQ.out.put ⟨by decide, by decide, by decide⟩ 0 (by decide) hi (ext_alloc (ext_refl _) _) (fun h => absurd h (by decide)) (fun _ => ⟨_, rfl, World.ownsRow_made w' #[] 0 hlow.size (by decide) rfl⟩) (fun h => absurd h (by decide)) (fun h => absurd h (by decide))
              · have f9 := h5 9 (by kernel_rfl)
                clear h4 h5
                unfold OpY
                go_simp
                exact HQ.out.put ⟨by decide, by decide, by decide⟩ 1 (by decide) hi (ext_refl _) (fun _ => rfl) (fun h => absurd h (by decide)) (fun h => absurd h (by decide)) (fun h => absurd h (by decide))
              · have hlow := HQ.out.low (HQ.out.not (by omega) hi)
                have c := (HK7.out.below hlow).cell 8 (v := .slice ua f.a.writes.length uca) rfl
                have f85 : ρ (.tmp 85) = (.pointer (some ⟨A, 8, none⟩)) := (h4 1 85 (by kernel_rfl) (by kernel_rfl)).trans (HQ.out.kn 1 (by decide) (hd 1 (by kernel_rfl)))
                clear h4 h5
                unfold OpY
                go_simp
                exact HQ.out.put ⟨by decide, by decide, by decide⟩ 2 (by decide) hi (ext_refl _) (fun _ => rfl) (fun h => absurd h (by decide)) (fun h => absurd h (by decide)) (fun h => absurd h (by decide))
              · have hlow := HQ.out.low (HQ.out.not (by omega) hi)
                obtain ⟨g1, hv1, hown⟩ := HQ.out.e1 (hd 0 (by kernel_rfl)) hi
                have f1 := (h4 0 84 (by kernel_rfl) (by kernel_rfl)).trans hv1
                have f4 : ρ (.tmp 86) = (.slice ua f.a.writes.length uca) := (h4 2 86 (by kernel_rfl) (by kernel_rfl)).trans (HQ.out.kn 2 (by decide) (hd 2 (by kernel_rfl)))
                rw [hv1] at hown
                obtain ⟨v', w'', hrun, hb', hown'⟩ := run_appM w' W7.heap.size 56 56 61 i2 _ 2 16 Tryd.underlying56 hi2 hx0 hx1 hx2 rfl (by decide) ⟨g1, 0, none⟩ hown (.slice ua f.a.writes.length uca) _ _ (HU7.out.old hlow) (pairsL_one _) (by have := HNL.out; unfold maxLen; omega) (by have := HNL.out; omega) hlow.size
                refine opY_append rfl f1 f4 hrun ?_
                exact HQ.out.put ⟨by decide, by decide, by decide⟩ 3 (by decide) hi hb' (fun h => absurd h (by decide)) (fun h => absurd h (by decide)) (fun _ => hown') (fun h => absurd h (by decide))
              · have hlow := HQ.out.low (HQ.out.not (by omega) hi)
                have hq := HPV.out.below hlow
                have c0 := hq.cell 0 rfl
                have c1 := hq.cell 1 rfl
                clear hq
                have f15 := h5 15 (by kernel_rfl)
                clear h4 h5
                unfold OpY
                go_simp
                exact HQ.out.put ⟨by decide, by decide, by decide⟩ 4 (by decide) hi (ext_refl _) (fun _ => rfl) (fun h => absurd h (by decide)) (fun h => absurd h (by decide)) (fun h => absurd h (by decide))
              · have f88 : ρ (.tmp 88) = (.agg #[.int .i64 at', .int .i64 x']) := (h4 4 88 (by kernel_rfl) (by kernel_rfl)).trans (HQ.out.kn 4 (by decide) (hd 4 (by kernel_rfl)))
                clear h4 h5
                unfold OpY
                go_simp
                exact HQ.out.put ⟨by decide, by decide, by decide⟩ 5 (by decide) hi (ext_alloc (ext_refl _) _) (fun h => absurd h (by decide)) (fun h => absurd h (by decide)) (fun h => absurd h (by decide)) (fun _ => ⟨_, rfl, fun j u hu => (Blk.new _ _ _).cell j (by simpa using hu)⟩)
              · have hlow := HQ.out.low (HQ.out.not (by omega) hi)
                obtain ⟨g8, hv8, c8⟩ := HQ.out.e8 (hd 5 (by kernel_rfl)) hi
                have e5 := HQ.out.e5 (hd 3 (by kernel_rfl)) hi
                have f5 : ρ (.tmp 87) = vz 3 := h4 3 87 (by kernel_rfl) (by kernel_rfl)
                have f8 := (h4 5 89 (by kernel_rfl) (by kernel_rfl)).trans hv8
                obtain ⟨v', w'', hrun, hown', hg, -, -⟩ := run_append_own_at w' W7.heap.size 56 56 61 i2 _ 2 16 Tryd.underlying56 hi2 hx0 hx1 hx2 rfl (by decide) (vz 3) _ _ e5 ⟨g8, 0, none⟩ 1 1 [.int .i64 at', .int .i64 x'] rfl (fun j u hu => by rw [add0]; exact c8 j u hu) (by intro u hu; simp at hu; rcases hu with rfl | rfl <;> rfl) (by have := HNL.out; unfold maxLen; omega) (by have := HNL.out; omega) hlow.size
                refine opY_append rfl f5 f8 hrun ?_
                exact HQ.out.putC ⟨by decide, by decide, by decide⟩ hi (hd 3 (by kernel_rfl)) hg hown'
              · have f9 := h5 9 (by kernel_rfl)
                clear h4 h5
                unfold OpY
                go_simp
                exact HQ.out.put ⟨by decide, by decide, by decide⟩ 7 (by decide) hi (ext_refl _) (fun _ => rfl) (fun h => absurd h (by decide)) (fun h => absurd h (by decide)) (fun h => absurd h (by decide))
              · have hlow := HQ.out.low hi
                have hq := HK7.out.below hlow
                have c := hq.cell 8 (v := .slice ua f.a.writes.length uca) rfl
                have z := hq.free 8
                clear hq
                have f10 : ρ (.tmp 91) = (.pointer (some ⟨A, 8, none⟩)) := (h4 7 91 (by kernel_rfl) (by kernel_rfl)).trans (HQ.out.kn 7 (by decide) (hd 7 (by kernel_rfl)))
                obtain ⟨g9, c9, hv9⟩ := own_form (HQ.out.e9 (hd 6 (by kernel_rfl)) hi)
                have f9 := (h4 6 90 (by kernel_rfl) (by kernel_rfl)).trans hv9
                have HV9 := hid hv9
                clear hv9
                have hall : ∀ i, i < 8 → l1 i = true := fun i hi => by
                  rcases i with _ | _ | _ | _ | _ | _ | _ | _ | i
                  · exact hd 0 (by kernel_rfl)
                  · exact hd 1 (by kernel_rfl)
                  · exact hd 2 (by kernel_rfl)
                  · exact hd 3 (by kernel_rfl)
                  · exact hd 4 (by kernel_rfl)
                  · exact hd 5 (by kernel_rfl)
                  · exact hd 6 (by kernel_rfl)
                  · exact hd 7 (by kernel_rfl)
                  · omega
                have HALL := hid hall
                clear hall h4 h5
                unfold OpY
                go_simp
                have h := HQ.out.putS ⟨by decide, by decide, by decide⟩ HK7.out hi HALL.out
                rw [HV9.out] at h
                exact h
            case hdone =>
              rintro vals W9 ⟨v9, hT9, hB9, hR9⟩
              have HK9 : Hid (Blk W9 A (attV { f.a with writes := f.a.writes ++ [(at', x')] } (.slice ra f.a.reads.length rca) v9) 58) := hid (by simpa [attV] using hB9)
              have HR9 : Hid (RowM W9 (A + 1) 61 2 v9 (f.a.writes ++ [(at', x')]).length (pairsL (f.a.writes ++ [(at', x')]))) := hid (by have := hR9.wider (base' := A + 1) HW7.out; rw [pairsL_snoc, List.length_append]; exact this)
              have HU9 := hid (HR7.out.turn hT9 (by simp))
              have HT9 := hid (HT7.out.trans hT9)
              have HB9 := hid (HB7.out.trans (hT9.below (B := Wk.heap.size) (by have := HAE.out; simp; omega) (by have := HB7.out.size; omega)))
              clear hT9 hB9 hR9 HK7 HR7 HU7 HT7 HB7
              go_wp2_with fail
              go_roundw
              case rel => exact ⟨j + 1, _, v9, HJ.out, by go_num, by rw [HFS2.out], by rw [HFS2.out], hid (by rw [HFS2.out]; exact HK9.out), hid (by rw [HFS2.out]; exact HU9.out), hid (by rw [HFS2.out]; exact HR9.out), HT9, HB9⟩
              case measure => simp [intOf]; have := HJ.out; omega
          by_cases k7 : kd = 7
          · subst k7
            have HFS2 : Hid (foldG l (begF l k) (m.take (j + 1)) = { f with a := { f.a with com := true, wv := v' } }) := hid (by rw [HFS.out]; unfold stF; simp)
            have a5 := HK7.out.cell 5 (v := .int .i64 f.a.wv) rfl
            have a6 := HK7.out.cell 6 (v := .bool f.a.com) rfl
            have s5 := HK7.out.free 5
            have s6 := HK7.out.free 6
            have q4 := HE7.out.cell 4 (v := .int .i64 v') rfl
            have hne : b0 ≠ A := by
              intro h
              have h1 := HE7.out
              have h2 := HK7.out
              unfold Blk at h1 h2
              rw [h, h2] at h1
              simp at h1
            go_wp2_with fail
            go_roundw
            case rel =>
              have T9 : Turn [A] W7 ((W7.setCell ⟨A, 6, none⟩ (.bool true)).setCell ⟨A, 5, none⟩ (.int .i64 v')) := ((Turn.refl _ _).setCell (Or.inl (by simp)) _).setCell (Or.inl (by simp)) _
              exact ⟨j + 1, _, _, HJ.out, by go_num, by rw [HFS2.out], by rw [HFS2.out], hid (by rw [HFS2.out]; exact (by simpa [attV] using (HK7.out.set 6 (.bool true)).set 5 (.int .i64 v'))), hid (by rw [HFS2.out]; exact (HR7.out.turn T9 (by simp))), hid (by rw [HFS2.out]; exact (HU7.out.turn T9 (by simp))), hid (HT7.out.trans T9), hid (HB7.out.trans (T9.below (B := Wk.heap.size) (by have := HAE.out; simp; omega) (by have := HB7.out.size; omega)))⟩
            case measure => simp [intOf]; have := HJ.out; omega
          by_cases k4 : kd = 4
          · subst k4
            have HFS2 : Hid (foldG l (begF l k) (m.take (j + 1)) = { f with lk := f.lk + 1 }) := hid (by rw [HFS.out]; unfold stF; simp)
            have wf : IntKind.i64.wrap (f.lk + 1) = f.lk + 1 := IntWalk.i64_in _ (by have := HFB.out.lk; have := HJB.out; omega)
            go_wp2_with fail
            go_roundw
            case rel => exact ⟨j + 1, _, _, HJ.out, by go_num, by rw [HFS2.out], by rw [HFS2.out], hid (by rw [HFS2.out]; exact HK7.out), hid (by rw [HFS2.out]; exact HR7.out), hid (by rw [HFS2.out]; exact HU7.out), HT7, HB7⟩
            case measure => simp [intOf]; have := HJ.out; omega
          by_cases k9 : kd = 9
          · subst k9
            have HFS2 : Hid (foldG l (begF l k) (m.take (j + 1)) = { f with gn := f.gn + 1 }) := hid (by rw [HFS.out]; unfold stF; simp)
            have wf : IntKind.i64.wrap (f.gn + 1) = f.gn + 1 := IntWalk.i64_in _ (by have := HFB.out.gn; have := HJB.out; omega)
            go_wp2_with fail
            go_roundw
            case rel => exact ⟨j + 1, _, _, HJ.out, by go_num, by rw [HFS2.out], by rw [HFS2.out], hid (by rw [HFS2.out]; exact HK7.out), hid (by rw [HFS2.out]; exact HR7.out), hid (by rw [HFS2.out]; exact HU7.out), HT7, HB7⟩
            case measure => simp [intOf]; have := HJ.out; omega
          by_cases k11 : kd = 11
          · subst k11
            have HFS2 : Hid (foldG l (begF l k) (m.take (j + 1)) = { f with gn := f.gn + 1 }) := hid (by rw [HFS.out]; unfold stF; simp)
            have wf : IntKind.i64.wrap (f.gn + 1) = f.gn + 1 := IntWalk.i64_in _ (by have := HFB.out.gn; have := HJB.out; omega)
            go_wp2_with fail
            go_roundw
            case rel => exact ⟨j + 1, _, _, HJ.out, by go_num, by rw [HFS2.out], by rw [HFS2.out], hid (by rw [HFS2.out]; exact HK7.out), hid (by rw [HFS2.out]; exact HR7.out), hid (by rw [HFS2.out]; exact HU7.out), HT7, HB7⟩
            case measure => simp [intOf]; have := HJ.out; omega
          have n3 : (kd == 3) = false := by simpa using k3
          have n8 : (kd == 8) = false := by simpa using k8
          have n7 : (kd == 7) = false := by simpa using k7
          have n4 : (kd == 4) = false := by simpa using k4
          have n9 : (kd == 9) = false := by simpa using k9
          have n11 : (kd == 11) = false := by simpa using k11
          have HFS2 : Hid (foldG l (begF l k) (m.take (j + 1)) = f) := hid (by rw [HFS.out]; unfold stF; simp [k3, k8, k7, k4, k9, k11])
          clear k3 k8 k7 k4 k9 k11
          go_wp2_with fail
          go_roundw
          case rel => exact ⟨j + 1, _, _, HJ.out, by go_num, by rw [HFS2.out], by rw [HFS2.out], hid (by rw [HFS2.out]; exact HK7.out), hid (by rw [HFS2.out]; exact HR7.out), hid (by rw [HFS2.out]; exact HU7.out), HT7, HB7⟩
          case measure => simp [intOf]; have := HJ.out; omega
      · obtain rfl : j = m.length := by omega
        rw [List.take_length] at HKQ HRR HRU
        have HFB := hid (FB.beg l k m)
        have HTO : Hid ((foldG l (begF l k) m).a.to_ = -1) := hid ((foldG_to l m (begF l k)).trans (by rw [HF0.out]))
        obtain ⟨rn, hrn⟩ : ∃ n, n = (foldG l (begF l k) m).a.reads.length := ⟨_, rfl⟩
        obtain ⟨un, hun⟩ : ∃ n, n = (foldG l (begF l k) m).a.writes.length := ⟨_, rfl⟩
        have HRN := hid hrn
        have HUN := hid hun
        rw [← hrn] at HKQ HRR
        rw [← hun] at HKQ HRU
        clear hrn hun
        rw [List.take_length]
        obtain ⟨M, hM⟩ : ∃ M, m.length = M + 1 := ⟨m.length - 1, by have := HMP.out; omega⟩
        have r0 : wr.cell? ⟨g, M, none⟩ = some (.int .i64 (lastM l k : Int)) := HTQ.out.cell (by simpa using HGA.out) (by
          have h1 := HCG.out M (by omega)
          have h2 := HLM.out
          rw [show m.length - 1 = M by omega, List.getElem?_eq_getElem (by omega)] at h2
          rw [h1, Option.some.inj h2])
        obtain ⟨d0, -⟩ := HC.out wr (ext_trans HB1.out (ext_trans HBR.out HBQ.out)) (lastM l k) HLL.out
        have HEX := hid (evA0_at HLL.out)
        generalize l[lastM l k]'HLL.out = X at d0 HEX
        obtain ⟨kd, th', tx', at', v', x', why'⟩ := X
        dsimp only at d0
        rw [HEX.out] at HR0
        generalize lastM l k = x at *
        generalize foldG l (begF l k) m = f at *
        have i1 : IntKind.i64.wrap ((m.length : Int) - 1) = (M : Int) := by rw [IntWalk.i64_in _ (by have := HMLN.out; have := HL.out; omega)]; omega
        have i2 : (0 : Int) ≤ (M : Int) := by omega
        have i3 : (M : Int) < (m.length : Int) := by omega
        have i4 : decide (M < m.length) = true := decide_eq_true (by omega)
        have i5 : (M : Int).toNat = M := by omega
        have v0 : (0 : Int) ≤ (x : Int) := by omega
        have v1 : (x : Int) < (l.length : Int) := by have := HLL.out; omega
        have v2 : decide (x < l.length) = true := decide_eq_true HLL.out
        have hk1 : decide ((m.length : Int) < (m.length : Int)) = false := decide_eq_false (by omega)
        have HI := hid (And.intro i1 (And.intro i2 (And.intro i3 (And.intro i4 i5))))
        clear hjl hj hM
        go_wp2_with fail
        go_quiet (fail)
        obtain ⟨W3, hW3⟩ : ∃ W3, W3 = wr.drewN nq := ⟨_, rfl⟩
        have hbe : Below wr.heap.size wr W3 := by rw [hW3]; exact ext_drewN (ext_refl _) _
        have HK3 := hid (HKQ.out.below hbe)
        have HR3 := hid (HRR.out.old hbe)
        have HU3 := hid (HRU.out.old hbe)
        have HB3 := hid (ext_trans HBQ.out hbe)
        have R0 := hid (later hbe r0)
        have HW3 : Hid (A + 1 ≤ W3.heap.size) := hid (by have := HKQ.out.lt; have := hbe.size; omega)
        rw [← hW3]
        clear hW3 hbe r0 d0 y3 v0 v1 v2 hk1 i1 i2 i3 i4 i5 HKQ HRR HRU HTQ HBQ
        go_upto_region 32 with (fail)
        go_cut [144] (fun s w' => s = .bool (endR kd f.lk f.gn) ∧ W3 = w')
        case first =>
          by_cases k7 : kd = 7 ∨ kd = 10
          · by_cases e1 : f.lk = 0
            · have b1 : (f.lk == 0) = true := by simpa using e1
              have HF : Hid (endR kd f.lk f.gn = true) := hid (by unfold endR; simp [k7, e1])
              rcases k7 with rfl | rfl <;> (clear e1; go_wp2_with fail; go_meet; exact ⟨by rw [HF.out], rfl⟩)
            · have b1 : (f.lk == 0) = false := by simpa using e1
              have HF : Hid (endR kd f.lk f.gn = false) := hid (by unfold endR; rw [Bool.or_eq_false_iff, Bool.or_eq_false_iff, decide_eq_false_iff_not, decide_eq_false_iff_not, decide_eq_false_iff_not]; omega)
              rcases k7 with rfl | rfl <;> (clear e1; go_wp2_with fail; go_meet; exact ⟨by rw [HF.out], rfl⟩)
          by_cases k9 : kd = 9 ∨ kd = 11
          · by_cases e1 : f.gn = f.lk
            · have b1 : (f.gn == f.lk) = true := by simpa using e1
              have HF : Hid (endR kd f.lk f.gn = true) := hid (by unfold endR; simp [k9, e1])
              rcases k9 with rfl | rfl <;> (clear e1 k7; go_wp2_with fail; go_meet; exact ⟨by rw [HF.out], rfl⟩)
            · have b1 : (f.gn == f.lk) = false := by simpa using e1
              have HF : Hid (endR kd f.lk f.gn = false) := hid (by unfold endR; rw [Bool.or_eq_false_iff, Bool.or_eq_false_iff, decide_eq_false_iff_not, decide_eq_false_iff_not, decide_eq_false_iff_not]; omega)
              rcases k9 with rfl | rfl <;> (clear e1 k7; go_wp2_with fail; go_meet; exact ⟨by rw [HF.out], rfl⟩)
          have n7 : (kd == 7) = false := by rw [beq_eq_false_iff_ne]; omega
          have n10 : (kd == 10) = false := by rw [beq_eq_false_iff_ne]; omega
          have n9 : (kd == 9) = false := by rw [beq_eq_false_iff_ne]; omega
          have n11 : (kd == 11) = false := by rw [beq_eq_false_iff_ne]; omega
          by_cases k12 : kd = 12
          · have n12 : (kd == 12) = true := by simpa using k12
            have HF : Hid (endR kd f.lk f.gn = true) := hid (by unfold endR; simp [k12])
            clear k7 k9 k12
            go_wp2_with fail
            go_meet
            exact ⟨by rw [HF.out], rfl⟩
          · have n12 : (kd == 12) = false := by simpa using k12
            have HF : Hid (endR kd f.lk f.gn = false) := hid (by unfold endR; rw [Bool.or_eq_false_iff, Bool.or_eq_false_iff, decide_eq_false_iff_not, decide_eq_false_iff_not, decide_eq_false_iff_not]; omega)
            clear k7 k9 k12
            go_wp2_with fail
            go_meet
            exact ⟨by rw [HF.out], rfl⟩
        obtain ⟨rfl, rfl⟩ := hcut
        obtain ⟨i1, i2, i3, i4, i5⟩ := HI.out
        have r0 := R0.out
        have c3 := HK3.out.cell 3 (v := .int .i64 f.a.to_) rfl
        have s3 := HK3.out.free 3
        cases hend : endR kd f.lk f.gn
        · have HEQ : Hid (attR l k = { f.a with to_ := -1 }) := hid (by rw [HR0.out]; simp [hend])
          clear hend
          go_upto_region 34 with (fail)
          obtain ⟨W4, hW4⟩ : ∃ W4, W4 = W3 := ⟨_, rfl⟩
          have T4 : Turn [A] W3 W4 := by rw [hW4]; exact Turn.refl _ _
          have HK4 : Hid (Blk W4 A (attV (attR l k) (.slice ra rn rca) (.slice ua un uca)) 58) := hid (by rw [HEQ.out, att_to (show f.a.to_ = -1 from HTO.out), hW4]; exact HK3.out)
          have HR4 : Hid (RowM W4 w1.heap.size 61 2 (.slice ra rn rca) (attR l k).reads.length (pairsL (attR l k).reads)) := hid (by
            have h := (HR3.out.turn T4 (by simp)).wider (base' := w1.heap.size) (by have := HBR.out.size; have := HAE.out; omega)
            rw [HEQ.out]; dsimp only; rw [← HRN.out]; exact h)
          have HU4 : Hid (RowM W4 w1.heap.size 61 2 (.slice ua un uca) (attR l k).writes.length (pairsL (attR l k).writes)) := hid (by
            have h := (HU3.out.turn T4 (by simp)).wider (base' := w1.heap.size) (by have := HBR.out.size; have := HAE.out; omega)
            rw [HEQ.out]; dsimp only; rw [← HUN.out]; exact h)
          have hbk : Below Wk.heap.size Wk W4 := HB3.out.trans (T4.below (B := Wk.heap.size) (by have := HAE.out; simp; omega) (by have := HB3.out.size; omega))
          have HAT4 := hid (HAT.out.old hbk)
          have HB4 := hid (ext_trans HBR.out hbk)
          subst hW4
          try clear hW4
          clear T4 hbk c3 s3 r0 i1 i2 i3 i4 i5 HK3 HR3 HU3 HB3 R0 HEQ HR0
          generalize attR l k = b at *
          unfold attV at HK4
          have a0 := HK4.out.cell 0 (v := .int .i64 b.th) rfl
          have a1 := HK4.out.cell 1 (v := .int .i64 b.tx) rfl
          have a2 := HK4.out.cell 2 (v := .int .i64 b.from_) rfl
          have a3 := HK4.out.cell 3 (v := .int .i64 b.to_) rfl
          have a4 := HK4.out.cell 4 (v := .int .i64 b.rv) rfl
          have a5 := HK4.out.cell 5 (v := .int .i64 b.wv) rfl
          have a6 := HK4.out.cell 6 (v := .bool b.com) rfl
          have a7 := HK4.out.cell 7 (v := .slice ra rn rca) rfl
          have a8 := HK4.out.cell 8 (v := .slice ua un uca) rfl
          have hbx := ext_alloc (ext_refl W4) (.cells #[.int .i64 b.th, .int .i64 b.tx, .int .i64 b.from_, .int .i64 b.to_, .int .i64 b.rv, .int .i64 b.wv, .bool b.com, .slice ra rn rca, .slice ua un uca] 58)
          have hown1 := own_old HAT4.out.1.1 hbx
          have hb4 := ext_trans HB4.out hbx
          have HON := hid (ofK_len l k)
          have hk4 := HK4'.out
          go_wp2_with (first
            | (at_builtin; refine wpList_append_own_at _ rfl (.tmp 152) (.tmp 154) 29 rfl w1.heap.size 58 i9 _ 9 104 Tryd.underlying29 hi9 hy0 hy1 hy2 rfl (by decide) (.slice py (ofK l k).length cy) _ _ rfl hown1 ⟨W4.heap.size, 0, none⟩ 1 1 (attL b (.slice ra rn rca) (.slice ua un uca)) rfl rfl (by intro j u hu; rw [add0]; exact (Blk.new W4 #[.int .i64 b.th, .int .i64 b.tx, .int .i64 b.from_, .int .i64 b.to_, .int .i64 b.rv, .int .i64 b.wv, .bool b.com, .slice ra rn rca, .slice ua un uca] 58).cell j (by simpa [attL] using hu)) (attL_one b ra ua rn rca un uca) (by have := HON.out; have := HLT.out; have := HL.out; unfold maxLen; omega) (by have := HON.out; have := HLT.out; have := HL.out; omega) hb4.size ?_; intro v9 w9 hown' hg hn hd; obtain ⟨g9, cp9, rfl⟩ := own_form hown'))
          go_roundw
          case rel =>
            have hb9 : Below w1.heap.size w1 w9 := hb4.grown hg hb4.size (fun k hk => (hown1.lt k hk).1)
            exact ⟨k + 1, _, HLT.out, by go_num, hid (by rw [HZ.out]; exact (HAT4.out.old hbx).push hown' hg (HR4.out.old hbx) (HU4.out.old hbx)), hid hb9⟩
          case measure => simp [intOf]; have := HLT.out; omega
        · have HEQ : Hid (attR l k = { f.a with to_ := (x : Int) }) := hid (by rw [HR0.out]; simp [hend])
          clear hend
          go_upto_region 34 with (fail)
          obtain ⟨W4, hW4⟩ : ∃ W4, W4 = W3.setCell ⟨A, 3, none⟩ (.int .i64 (x : Int)) := ⟨_, rfl⟩
          have T4 : Turn [A] W3 W4 := by rw [hW4]; exact (Turn.refl _ _).setCell (Or.inl (by simp)) _
          have HK4 : Hid (Blk W4 A (attV (attR l k) (.slice ra rn rca) (.slice ua un uca)) 58) := hid (by rw [HEQ.out, hW4]; simpa [attV] using HK3.out.set 3 (.int .i64 (x : Int)))
          have HR4 : Hid (RowM W4 w1.heap.size 61 2 (.slice ra rn rca) (attR l k).reads.length (pairsL (attR l k).reads)) := hid (by
            have h := (HR3.out.turn T4 (by simp)).wider (base' := w1.heap.size) (by have := HBR.out.size; have := HAE.out; omega)
            rw [HEQ.out]; dsimp only; rw [← HRN.out]; exact h)
          have HU4 : Hid (RowM W4 w1.heap.size 61 2 (.slice ua un uca) (attR l k).writes.length (pairsL (attR l k).writes)) := hid (by
            have h := (HU3.out.turn T4 (by simp)).wider (base' := w1.heap.size) (by have := HBR.out.size; have := HAE.out; omega)
            rw [HEQ.out]; dsimp only; rw [← HUN.out]; exact h)
          have hbk : Below Wk.heap.size Wk W4 := HB3.out.trans (T4.below (B := Wk.heap.size) (by have := HAE.out; simp; omega) (by have := HB3.out.size; omega))
          have HAT4 := hid (HAT.out.old hbk)
          have HB4 := hid (ext_trans HBR.out hbk)
          rw [← hW4]
          try clear hW4
          clear T4 hbk c3 s3 r0 i1 i2 i3 i4 i5 HK3 HR3 HU3 HB3 R0 HEQ HR0
          generalize attR l k = b at *
          unfold attV at HK4
          have a0 := HK4.out.cell 0 (v := .int .i64 b.th) rfl
          have a1 := HK4.out.cell 1 (v := .int .i64 b.tx) rfl
          have a2 := HK4.out.cell 2 (v := .int .i64 b.from_) rfl
          have a3 := HK4.out.cell 3 (v := .int .i64 b.to_) rfl
          have a4 := HK4.out.cell 4 (v := .int .i64 b.rv) rfl
          have a5 := HK4.out.cell 5 (v := .int .i64 b.wv) rfl
          have a6 := HK4.out.cell 6 (v := .bool b.com) rfl
          have a7 := HK4.out.cell 7 (v := .slice ra rn rca) rfl
          have a8 := HK4.out.cell 8 (v := .slice ua un uca) rfl
          have hbx := ext_alloc (ext_refl W4) (.cells #[.int .i64 b.th, .int .i64 b.tx, .int .i64 b.from_, .int .i64 b.to_, .int .i64 b.rv, .int .i64 b.wv, .bool b.com, .slice ra rn rca, .slice ua un uca] 58)
          have hown1 := own_old HAT4.out.1.1 hbx
          have hb4 := ext_trans HB4.out hbx
          have HON := hid (ofK_len l k)
          have hk4 := HK4'.out
          go_wp2_with (first
            | (at_builtin; refine wpList_append_own_at _ rfl (.tmp 152) (.tmp 154) 29 rfl w1.heap.size 58 i9 _ 9 104 Tryd.underlying29 hi9 hy0 hy1 hy2 rfl (by decide) (.slice py (ofK l k).length cy) _ _ rfl hown1 ⟨W4.heap.size, 0, none⟩ 1 1 (attL b (.slice ra rn rca) (.slice ua un uca)) rfl rfl (by intro j u hu; rw [add0]; exact (Blk.new W4 #[.int .i64 b.th, .int .i64 b.tx, .int .i64 b.from_, .int .i64 b.to_, .int .i64 b.rv, .int .i64 b.wv, .bool b.com, .slice ra rn rca, .slice ua un uca] 58).cell j (by simpa [attL] using hu)) (attL_one b ra ua rn rca un uca) (by have := HON.out; have := HLT.out; have := HL.out; unfold maxLen; omega) (by have := HON.out; have := HLT.out; have := HL.out; omega) hb4.size ?_; intro v9 w9 hown' hg hn hd; obtain ⟨g9, cp9, rfl⟩ := own_form hown'))
          go_roundw
          case rel =>
            have hb9 : Below w1.heap.size w1 w9 := hb4.grown hg hb4.size (fun k hk => (hown1.lt k hk).1)
            exact ⟨k + 1, _, HLT.out, by go_num, hid (by rw [HZ.out]; exact (HAT4.out.old hbx).push hown' hg (HR4.out.old hbx) (HU4.out.old hbx)), hid hb9⟩
          case measure => simp [intOf]; have := HLT.out; omega
end Go.Proofs.YtcddlnmcjmhbcaaDoor
/-
  Walk: the law HistoryTells.
-/
namespace Go.Proofs.YtcddlnmcjmhbcaaDoor
set_option linter.unusedVariables false
set_option linter.unusedSimpArgs false
set_option linter.unusedVariables false
open Go Go.RowKit
theorem rdN_own {W : World} {n₀ n : Nat} {v : Value} {l : List Int} (h : W.ownsRow n₀ 3 1 v n (l.map (.int .i64))) (hn : n = l.length) (hl : l.length ≤ 1048576) : RdN W l v := by
  subst hn
  have h0 := h
  rcases h.2 with ⟨rfl, hn⟩ | ⟨g, cap, cur, rfl, hb', hg, h1, h2, h3, h4⟩
  · exact ⟨none, 0, by rw [hn], hl, fun hne => absurd (List.eq_nil_of_length_eq_zero hn) hne⟩
  · refine ⟨_, cap, rfl, hl, fun _ => ⟨g, 0, rfl, fun k hk => ?_⟩⟩
    rw [Nat.zero_add, h0.cellAt k (by simpa using hk), List.getElem?_map, List.getElem?_eq_getElem hk]; rfl
/-- What both tell, or nothing. -/
def attsT (T V S : Int) (l : List Ev) : List Att := if (checkT T V S l).2 = 0 then ofR l else []
def numsT (T V S : Int) (l : List Ev) : List Int := if (checkT T V S l).2 = 0 then splitR l else []
theorem hist_of {T V S : Int} {l : List Ev} (h : (checkT T V S l).2 = 0) : ∃ s, Hist T V S l s := (checkT_fine h).2.2
set_option maxRecDepth 100000 in
set_option maxHeartbeats 8000000 in
theorem hiTells_any (T V S T' V' S' : Int) (a a' : Option Addr) (l l' : List Ev) (cap cap' : Nat) (w : World) (hE : EvsAt w a l) (hE' : EvsAt w a' l') (hc : l.length ≤ cap) (hc' : l'.length ≤ cap') (hK : KindsAt w) (hT : TabOk w) (hN : NamesR w) :
    Calls Tryd.prog 4 #[trA T V S a l.length cap, trA T' V' S' a' l'.length cap'] w fun e w' => e = .returned (.bool true) ∧ Below w.heap.size w w' := by
  by_cases h1 : l.length ≤ 140
  case neg =>
    have x1 : decide ((140 : Int) < (l.length : Int)) = true := decide_eq_true (by omega)
    unfold trA
    go_enter Tryd.func4, Tryd.ntmps4
    go_wp2_with fail
    go_ret
    exact ⟨rfl, ext_alloc (ext_alloc (ext_refl _) _) _⟩
  have x1 : decide ((140 : Int) < (l.length : Int)) = false := decide_eq_false (by omega)
  by_cases h2 : l'.length ≤ 140
  case neg =>
    have x2 : decide ((140 : Int) < (l'.length : Int)) = true := decide_eq_true (by omega)
    unfold trA
    go_enter Tryd.func4, Tryd.ntmps4
    go_wp2_with fail
    go_ret
    exact ⟨rfl, ext_alloc (ext_alloc (ext_refl _) _) _⟩
  have x2 : decide ((140 : Int) < (l'.length : Int)) = false := decide_eq_false (by omega)
  obtain ⟨W0, hW0⟩ : ∃ W0, W0 = (w.alloc (.cells #[.int .i64 T, .int .i64 V, .int .i64 S, .slice a l.length cap] 24)).alloc (.cells #[.int .i64 T', .int .i64 V', .int .i64 S', .slice a' l'.length cap'] 24) := ⟨_, rfl⟩
  have HX : Hid (Blk W0 w.heap.size #[.int .i64 T, .int .i64 V, .int .i64 S, .slice a l.length cap] 24) := hid (by rw [hW0]; exact (Blk.new _ _ _).alloc _)
  have HY : Hid (Blk W0 (w.heap.size + 1) #[.int .i64 T', .int .i64 V', .int .i64 S', .slice a' l'.length cap'] 24) := hid (by rw [hW0]; exact Blk.new' _ _ _ (by rw [World.size_alloc]))
  have HB0 : Hid (Below w.heap.size w W0) := hid (by rw [hW0]; exact ext_alloc (ext_alloc (ext_refl _) _) _)
  have HO := hid (fun W (hW : Below w.heap.size w W) => of_any T V S a l cap W (hE.below hW) (hK.below hW) (hT.below hW))
  have HS := hid (fun W (hW : Below w.heap.size w W) => split_any T V S a l cap W (hE.below hW) (hK.below hW) (hT.below hW))
  have HRO := hid (fun W (hW : Below w.heap.size w W) => rof_any T V S a l cap W (hE.below hW) (by omega) hc (hN.below hW))
  have HRS := hid (fun W (hW : Below w.heap.size w W) => rsplit_any T V S a l cap W (hE.below hW) (by omega) hc (hN.below hW))
  have HRU := hid (fun W (hW : Below w.heap.size w W) => rof_any T' V' S' a' l' cap' W (hE'.below hW) (by omega) hc' (hN.below hW))
  have HA : Hid (∀ W n₀ v, AttsAt W n₀ v (if (checkT T V S l).2 = 0 then (histT l).out else []) → RdA W (attsT T V S l) v) := hid (by
    intro W n₀ v ⟨H, g1, g2⟩
    unfold attsT
    by_cases hz : (checkT T V S l).2 = 0
    · obtain ⟨s, hs⟩ := hist_of hz
      rw [if_pos hz, hs.ofR] at g1 g2
      rw [if_pos hz]
      have hle := ofK_len l l.length
      exact rdA_own g1 g2 (by show (ofK l l.length).length ≤ _; omega) (fun q hq => by
        obtain ⟨b, -, rfl⟩ := List.mem_map.1 hq
        have := attR_len l b
        omega)
    · rw [if_neg hz] at g1 g2 ⊢
      exact rdA_own g1 g2 (by simp) (fun q hq => by cases hq))
  have HNM : Hid (∀ W n₀ v, W.ownsRow n₀ 3 1 v (if (checkT T V S l).2 = 0 then l.length else 0) (if (checkT T V S l).2 = 0 then (ofT l).map (.int .i64) else []) → RdN W (numsT T V S l) v) := hid (by
    intro W n₀ v g
    unfold numsT
    by_cases hz : (checkT T V S l).2 = 0
    · obtain ⟨s, hs⟩ := hist_of hz
      rw [if_pos hz, if_pos hz, hs.splitR] at g
      rw [if_pos hz]
      have hle : (splitR l).length = l.length := splitK_len l l.length
      exact rdN_own g hle.symm (by omega)
    · rw [if_neg hz, if_neg hz] at g
      rw [if_neg hz]
      exact rdN_own (l := []) g rfl (by simp))
  clear hE hE' hc hc' hK hT hN h1 h2
  unfold trA at *
  have HFin : Hid (∀ W, Below w.heap.size w W → Below w.heap.size w W) := hid (fun _ h => h)
  go_enter Tryd.func4, Tryd.ntmps4
  go_wp2_with fail
  rw [← hW0]
  clear hW0 x1 x2
  refine (HO.out _ HB0.out).mono ?_
  rintro e1 w1 ⟨v1, rfl, hb1, hv1⟩
  have V1 := hid (HA.out _ _ _ hv1)
  have HB1 := hid (ext_trans HB0.out hb1)
  have HX1 := hid (HX.out.below hb1)
  have HY1 := hid (HY.out.below hb1)
  clear hb1 hv1 HX HY HO
  have y0 := HX1.out.cell 0 (v := .int .i64 T) rfl
  have y1 := HX1.out.cell 1 (v := .int .i64 V) rfl
  have y2 := HX1.out.cell 2 (v := .int .i64 S) rfl
  have y3 := HX1.out.cell 3 (v := .slice a l.length cap) rfl
  go_wp2_with fail
  refine (HRO.out _ HB1.out).mono ?_
  rintro e2 w2 ⟨v2, rfl, hb2, hv2⟩
  have V2 : Hid (RdA w2 (attsT T V S l) v2) := hid hv2
  have HB2 := hid (ext_trans HB1.out hb2)
  have HX2 := hid (HX1.out.below hb2)
  have HY2 := hid (HY1.out.below hb2)
  have V1' := hid (V1.out.below hb2)
  clear hb2 hv2 HX1 HY1 HRO y0 y1 y2 y3 V1
  have y0 := HX2.out.cell 0 (v := .int .i64 T) rfl
  have y1 := HX2.out.cell 1 (v := .int .i64 V) rfl
  have y2 := HX2.out.cell 2 (v := .int .i64 S) rfl
  have y3 := HX2.out.cell 3 (v := .slice a l.length cap) rfl
  go_wp2_with fail
  refine (HS.out _ HB2.out).mono ?_
  rintro e3 w3 ⟨v3, rfl, hb3, hv3⟩
  have V3 := hid (HNM.out _ _ _ hv3)
  have HB3 := hid (ext_trans HB2.out hb3)
  have HX3 := hid (HX2.out.below hb3)
  have HY3 := hid (HY2.out.below hb3)
  have V1 := hid (V1'.out.below hb3)
  have V2' := hid (V2.out.below hb3)
  clear hb3 hv3 HX2 HY2 HS y0 y1 y2 y3 V1' V2
  have y0 := HX3.out.cell 0 (v := .int .i64 T) rfl
  have y1 := HX3.out.cell 1 (v := .int .i64 V) rfl
  have y2 := HX3.out.cell 2 (v := .int .i64 S) rfl
  have y3 := HX3.out.cell 3 (v := .slice a l.length cap) rfl
  go_wp2_with fail
  refine (HRS.out _ HB3.out).mono ?_
  rintro e4 w4 ⟨v4, rfl, hb4, hv4⟩
  have V4 : Hid (RdN w4 (numsT T V S l) v4) := hid hv4
  have HB4 := hid (ext_trans HB3.out hb4)
  have HY4 := hid (HY3.out.below hb4)
  have V1' := hid (V1.out.below hb4)
  have V2 := hid (V2'.out.below hb4)
  have V3' := hid (V3.out.below hb4)
  clear hb4 hv4 HX3 HY3 HRS y0 y1 y2 y3 V1 V2' V3
  have y0 := HY4.out.cell 0 (v := .int .i64 T') rfl
  have y1 := HY4.out.cell 1 (v := .int .i64 V') rfl
  have y2 := HY4.out.cell 2 (v := .int .i64 S') rfl
  have y3 := HY4.out.cell 3 (v := .slice a' l'.length cap') rfl
  go_wp2_with fail
  refine (HRU.out _ HB4.out).mono ?_
  rintro e5 w5 ⟨v5, rfl, hb5, hv5⟩
  have V5 : Hid (RdA w5 (attsT T' V' S' l') v5) := hid hv5
  have HB5 := hid (ext_trans HB4.out hb5)
  have V1 := hid (V1'.out.below hb5)
  have V2' := hid (V2.out.below hb5)
  have V3 := hid (V3'.out.below hb5)
  have V4' := hid (V4.out.below hb5)
  clear hb5 hv5 HY4 HRU y0 y1 y2 y3 V1' V2 V3' V4
  generalize attsT T V S l = LA at *
  generalize numsT T V S l = LN at *
  generalize attsT T' V' S' l' = LU at *
  generalize (checkT T V S l).2 = q at *
  generalize (checkT T' V' S' l').2 = q' at *
  obtain ⟨r0, hr0⟩ := bool_of (LA = LU)
  have HR0 := hid hr0
  clear hr0 HA HNM
  have b1 : (q == q) = true := by simp
  go_wp2_with fail
  refine (rsame_any LA LA _ v1 v2 V1.out V2'.out true (by simp)).mono ?_
  rintro e6 w6 ⟨rfl, hb6⟩
  have HB6 := hid (ext_trans HB5.out hb6)
  have V2 := hid (V2'.out.below hb6)
  have V3' := hid (V3.out.below hb6)
  have V4 := hid (V4'.out.below hb6)
  have V5' := hid (V5.out.below hb6)
  clear hb6 V1 V2' V3 V4' V5
  go_wp2_with fail
  refine (nums_any LN LN _ v3 v4 V3'.out V4.out true (by simp)).mono ?_
  rintro e7 w7 ⟨rfl, hb7⟩
  have HB7 := hid (ext_trans HB6.out hb7)
  have V2' := hid (V2.out.below hb7)
  have V5 := hid (V5'.out.below hb7)
  clear hb7 V2 V3' V4 V5'
  go_wp2_with fail
  refine (hsame_any LA LU _ v2 v5 V2'.out V5.out r0 HR0.out).mono ?_
  rintro e8 w8 ⟨rfl, hb8⟩
  have HB8 := hid (ext_trans HB7.out hb8)
  have V2 := hid (V2'.out.below hb8)
  have V5' := hid (V5.out.below hb8)
  clear hb8 V2' V5
  go_wp2_with fail
  refine (rsame_any LA LU _ v2 v5 V2.out V5'.out r0 HR0.out).mono ?_
  rintro e9 w9 ⟨rfl, hb9⟩
  have HB9 := hid (ext_trans HB8.out hb9)
  have b2 : (r0 == r0) = true := by simp
  clear hb9 V2 V5'
  go_wp2_with fail
  go_ret
  exact ⟨rfl, HB9.out⟩
end Go.Proofs.YtcddlnmcjmhbcaaDoor
