/-
  The law HistoryEach: its walk (printed by tools/gen_hix4.py).
-/
import Derived.Test.YtjckgagkkknmnaaDoorHiG7
import Derived.Test.YtjckgagkkknmnaaDoorHiS
import Derived.Test.YtjckgagkkknmnaaDoorHiG2
namespace Go.Proofs.YtjckgagkkknmnaaDoor
set_option linter.unusedVariables false
set_option linter.unusedSimpArgs false
set_option linter.unusedVariables false
open Go Go.RowKit
def rowN (b : Bool) (l : List Ev) (i n : Nat) : Array Value := ((List.range n).map fun k => Value.int .i64 (cntR b l i k : Int)).toArray
theorem rowN_get (b : Bool) (l : List Ev) (i n k : Nat) (hk : k < n) : (rowN b l i n)[k]? = some (.int .i64 (cntR b l i k : Int)) := by
  unfold rowN
  rw [List.getElem?_toArray, List.getElem?_map, List.getElem?_range hk]; rfl
theorem rowN_same {b : Bool} {l : List Ev} {i j n : Nat} (h : ∀ k, cntR b l i k = cntR b l j k) : rowN b l i n = rowN b l j n := by
  unfold rowN
  congr 1
  exact List.map_congr_left fun k _ => by rw [h k]
theorem rowN_set {b : Bool} {l : List Ev} {i j n K : Nat} (hK : cntR b l j K = cntR b l i K + 1) (h : ∀ k, k ≠ K → cntR b l j k = cntR b l i k) : (rowN b l i n).setIfInBounds K (.int .i64 ((cntR b l i K : Int) + 1)) = rowN b l j n := by
  apply Array.ext
  · simp [rowN]
  · intro k h1 h2
    have hk : k < n := by simpa [rowN] using h2
    have e1 := rowN_get b l i n k hk
    have e2 := rowN_get b l j n k hk
    rw [Array.getElem?_eq_getElem h2] at e2
    rw [Option.some.inj e2, Array.getElem_setIfInBounds (by simpa [rowN] using hk)]
    by_cases hc : K = k
    · subst hc
      rw [if_pos rfl, hK]; rfl
    · rw [if_neg hc, h k (fun e => hc e.symm)]
      rw [Array.getElem?_eq_getElem (by simpa [rowN] using hk)] at e1
      exact Option.some.inj e1
theorem rowN_zero (b : Bool) (l : List Ev) (n : Nat) : rowN b l 0 n = (List.replicate n (Value.int .i64 0)).toArray := by
  unfold rowN
  congr 1
  rw [List.eq_replicate_iff]
  refine ⟨by simp, fun x hx => ?_⟩
  obtain ⟨k, _, rfl⟩ := List.mem_map.1 hx
  cases b <;> rfl

theorem each_infoInt : (Tryd.prog.info? 3).map (fun i => (i.zero, i.size, i.bytes)) = some (some (.int .i64 0), 1, 8) := by kernel_rfl
theorem made_one (n : Nat) : madeCells #[Value.int .i64 0] (n * 1) = (List.replicate n (Value.int .i64 0)).toArray := by
  rw [made_flat _ 1 n rfl (by omega)]
  unfold flatA
  congr 1
  induction n with
  | zero => rfl
  | succ n ih => rw [List.replicate_succ, List.flatten_cons, ih]; rfl
theorem run_mkint (W : World) (n : Nat) (hn : n ≤ 2000) : (Instr.makeSlice 39 (.int .i64 (n : Int)) (.int .i64 (n : Int))).run Tryd.prog W = .ok (.slice (some ⟨W.heap.size, 0, none⟩) n n) (W.alloc (.cells (List.replicate n (Value.int .i64 0)).toArray 3)) := by
  obtain ⟨i0, hi, hz0, hz1, hz2⟩ := info_parts each_infoInt
  rw [run_make W 39 3 i0 _ Tryd.underlying39 hi hz0 .i64 .i64 n n (by omega) (by omega) (by rw [hz2]; omega) (by omega), hz1]
  simp only [Int.toNat_natCast]
  rw [show (Value.int .i64 0).cells = #[Value.int .i64 0] from rfl, made_one]
theorem pairsL_get' : ∀ {l : List (Int × Int)} {i : Nat} {p : Int × Int}, l[i]? = some p → (pairsL l)[i * 2]? = some (.int .i64 p.1) ∧ (pairsL l)[i * 2 + 1]? = some (.int .i64 p.2)
  | q :: l, 0, p, h => by cases h; exact ⟨rfl, rfl⟩
  | q :: l, i + 1, p, h => by
    have := pairsL_get' (l := l) (i := i) (by simpa using h)
    have e : pairsL (q :: l) = [.int .i64 q.1, .int .i64 q.2] ++ pairsL l := by unfold pairsL; rw [List.flatMap_cons]
    rw [e, List.getElem?_append_right (by simp; omega), List.getElem?_append_right (by simp; omega)]
    have e1 : (i + 1) * 2 - [Value.int .i64 q.1, Value.int .i64 q.2].length = i * 2 := by simp; omega
    have e2 : (i + 1) * 2 + 1 - [Value.int .i64 q.1, Value.int .i64 q.2].length = i * 2 + 1 := by simp; omega
    rw [e1, e2]; exact this
theorem pair_in {W : World} {n₀ n c : Nat} {x : Option Addr} {l : List (Int × Int)} {i : Nat} {p : Int × Int} (h : W.ownsRow n₀ 36 2 (.slice x n c) n (pairsL l)) (hn : l.length = n) (hi : l[i]? = some p) : ∃ g, x = some ⟨g, 0, none⟩ ∧ i < n ∧ W.cell? ⟨g, i * 2, none⟩ = some (.int .i64 p.1) ∧ W.cell? ⟨g, i * 2 + 1, none⟩ = some (.int .i64 p.2) := by
  have hil := (List.getElem?_eq_some_iff.1 hi).1
  obtain ⟨g, c', e, _, hg⟩ := own_slice h (by omega)
  cases e
  obtain ⟨h1, h2⟩ := pairsL_get' hi
  exact ⟨g, rfl, by omega, (h.cellAt (i * 2) (by omega)).trans h1, (h.cellAt (i * 2 + 1) (by omega)).trans h2⟩

set_option maxRecDepth 100000 in
set_option maxHeartbeats 4000000 in
theorem each_great (T V S : Int) (a : Option Addr) (len cap : Nat) (w : World) (hl : 2000 < len) (hK : KindsAt w) (hT : TabOk w) :
    Calls Tryd.prog 6 #[trA T V S a len cap] w fun e w' => e = .returned (.bool true) ∧ Below w.heap.size w w' := by
  have HW := hid (fun W (hW : Below w.heap.size w W) => Rk.works_any W (hK.below hW) (hT.below hW))
  have j : decide ((2000 : Int) < (len : Int)) = true := by rw [decide_eq_true_iff]; omega
  clear hl hK hT
  dsimp only [trA]
  have HB : Hid (Below w.heap.size w (w.alloc (.cells #[.int .i64 T, .int .i64 V, .int .i64 S, .slice a len cap] 24))) := hid (ext_alloc (ext_refl _) _)
  have d := Blk.new w #[.int .i64 T, .int .i64 V, .int .i64 S, .slice a len cap] 24
  go_enter Tryd.func6, Tryd.ntmps6
  go_wp2_with fail
  refine (HW.out _ HB.out).mono ?_
  rintro e' w1 ⟨rfl, hb1⟩
  have d3 := later hb1 (d.cell 3 rfl)
  have HB1 := hid (ext_trans HB.out hb1)
  clear hb1 d
  go_wp2_with fail
  refine (HW.out _ HB1.out).mono ?_
  rintro e' w2 ⟨rfl, hb2⟩
  have HB2 := hid (ext_trans HB1.out hb2)
  clear hb2
  go_wp2_with fail
  go_ret
  exact ⟨rfl, HB2.out⟩

set_option maxRecDepth 100000 in
set_option maxHeartbeats 4000000 in
theorem each_no (T V S : Int) (a : Option Addr) (l : List Ev) (cap : Nat) (w : World) (hl : l.length ≤ 2000) (hc : (checkT T V S l).2 ≠ 0) (hE : EvsAt w a l) (hK : KindsAt w) (hT : TabOk w) :
    Calls Tryd.prog 6 #[trA T V S a l.length cap] w fun e w' => e = .returned (.bool true) ∧ Below w.heap.size w w' := by
  have HW := hid (fun W (hW : Below w.heap.size w W) => Rk.works_any W (hK.below hW) (hT.below hW))
  have HC := hid (fun W (hW : Below w.heap.size w W) => of_any T V S a l cap W (hE.below hW) (hK.below hW) (hT.below hW))
  have HS := hid (fun W (hW : Below w.heap.size w W) => split_any T V S a l cap W (hE.below hW) (hK.below hW) (hT.below hW))
  have HCK := hid (fun W (hW : Below w.heap.size w W) => check_all T V S a l cap W (hE.below hW) (hK.below hW) (hT.below hW))
  have j : decide ((2000 : Int) < (l.length : Int)) = false := by rw [decide_eq_false_iff_not]; omega
  unfold OfP at HC
  unfold SplitP at HS
  rw [if_neg hc] at HC
  rw [if_neg hc, if_neg hc] at HS
  obtain ⟨q, hq⟩ : ∃ q, (checkT T V S l).2 = q := ⟨_, rfl⟩
  obtain ⟨p, hp⟩ : ∃ q, (checkT T V S l).1 = q := ⟨_, rfl⟩
  rw [hq] at HC HS HCK hc
  rw [hp] at HCK
  have g1 : (q == 0) = false := beq_eq_false_iff_ne.2 hc
  have g2 : (q != 0) = true := bne_iff_ne.2 hc
  have g3 : (q != q) = false := by simp
  have g4 : (q == q) = true := by simp
  clear hl hK hT hE hc hq hp
  dsimp only [trA] at HC HS HCK ⊢
  have HB : Hid (Below w.heap.size w (w.alloc (.cells #[.int .i64 T, .int .i64 V, .int .i64 S, .slice a l.length cap] 24))) := hid (ext_alloc (ext_refl _) _)
  have d := Blk.new w #[.int .i64 T, .int .i64 V, .int .i64 S, .slice a l.length cap] 24
  go_enter Tryd.func6, Tryd.ntmps6
  go_wp2_with fail
  refine (HW.out _ HB.out).mono ?_
  rintro e' w1 ⟨rfl, hb1⟩
  have d0 := later hb1 (d.cell 0 rfl)
  have d1 := later hb1 (d.cell 1 rfl)
  have d2 := later hb1 (d.cell 2 rfl)
  have d3 := later hb1 (d.cell 3 rfl)
  have HB1 := hid (ext_trans HB.out hb1)
  clear hb1 d
  go_wp2_with fail
  refine (HC.out _ HB1.out).mono ?_
  rintro e' w2 ⟨vo, rfl, hb2, hat⟩
  have HB2 := hid (ext_trans HB1.out hb2)
  have f0 := later hb2 d0
  have f1 := later hb2 d1
  have f2 := later hb2 d2
  have f3 := later hb2 d3
  have HAT := hid hat
  obtain ⟨vx, vc, rfl⟩ : ∃ g c, vo = .slice g 0 c := by
    obtain ⟨H, h1, _⟩ := hat
    obtain ⟨x, c, rfl⟩ := own_is h1
    exact ⟨_, _, rfl⟩
  clear hb2 hat d0 d1 d2 d3
  go_wp2_with fail
  refine (HS.out _ HB2.out).mono ?_
  rintro e' w3 ⟨vs, rfl, hb3, hsp⟩
  have HB3 := hid (ext_trans HB2.out hb3)
  have d0 := later hb3 f0
  have d1 := later hb3 f1
  have d2 := later hb3 f2
  have d3 := later hb3 f3
  have HSP := hid hsp
  have HB23 := hid hb3
  obtain ⟨sx, sc, rfl⟩ := own_is hsp
  clear hb3 hsp f0 f1 f2 f3
  go_wp2_with fail
  refine (HCK.out _ HB3.out).mono ?_
  rintro e' w4 ⟨rfl, hb4⟩
  have HB4 := hid (ext_trans HB3.out hb4)
  have HB34 := hid hb4
  have f3 : w4.cell? ⟨w.heap.size, 3, none⟩ = some (.slice a l.length cap) := later hb4 d3
  have hw4 := lt_of_cell f3
  have F3 := hid f3
  have HW4 := hid hw4
  clear hb4 d0 d1 d2 d3
  go_wp2_with fail
  go_ret
  exact ⟨rfl, HB4.out⟩

set_option maxRecDepth 100000 in
set_option maxHeartbeats 40000000 in
theorem each_loop (T V S : Int) (a : Option Addr) (l : List Ev) (cap : Nat) (w : World) (hl : l.length ≤ 2000) (hc : (checkT T V S l).2 = 0) (hE : EvsAt w a l) (hK : KindsAt w) (hT : TabOk w) :
    Calls Tryd.prog 6 #[trA T V S a l.length cap] w fun e w' => e = .returned (.bool true) ∧ Below w.heap.size w w' := by
  have HW := hid (fun W (hW : Below w.heap.size w W) => Rk.works_any W (hK.below hW) (hT.below hW))
  have HC := hid (fun W (hW : Below w.heap.size w W) => of_any T V S a l cap W (hE.below hW) (hK.below hW) (hT.below hW))
  have HS := hid (fun W (hW : Below w.heap.size w W) => split_any T V S a l cap W (hE.below hW) (hK.below hW) (hT.below hW))
  have HCK := hid (fun W (hW : Below w.heap.size w W) => check_all T V S a l cap W (hE.below hW) (hK.below hW) (hT.below hW))
  have j : decide ((2000 : Int) < (l.length : Int)) = false := by rw [decide_eq_false_iff_not]; omega
  unfold OfP at HC
  unfold SplitP at HS
  obtain ⟨hz, hmax, s, hs⟩ := checkT_fine hc
  have hI := hs.hi
  rw [if_pos hc] at HC
  rw [if_pos hc, if_pos hc] at HS
  rw [hc] at HC HS HCK
  obtain ⟨L, hL⟩ : ∃ L, (histT l).out = L := ⟨_, rfl⟩
  obtain ⟨cp, hcp⟩ : ∃ q, (checkT T V S l).1 = q := ⟨_, rfl⟩
  rw [hcp] at HCK
  have hLl : L.length ≤ 2000 := by
    have := hist_len l newH 0
    have h0 : newH.out.length = 0 := rfl
    rw [← hL]
    show (histF newH 0 l).out.length ≤ 2000
    omega
  have HEV := hid hE
  have HEACH := hid (fun (i : Nat) (hi : i < l.length) (k13 : l[i].kind ≠ 13) => hs.each hi k13)
  have HCNT := hid (fun (i : Nat) (hi : i < l.length) => hs.cnt hi)
  have HA := hid (fun k (hk : k < L.length) => hI.att k (L.getD k Att.zero) (by rw [hL]; exact get?_getD _ hk))
  have HLEN : Hid (∀ k, k < L.length → (L.getD k Att.zero).reads.length ≤ 2000 ∧ (L.getD k Att.zero).writes.length ≤ 2000) := hid (fun k hk => by
    have hm : L.getD k Att.zero ∈ (histF newH 0 l).out := List.mem_of_getElem? (show (histT l).out[k]? = some (L.getD k Att.zero) by rw [hL]; exact get?_getD _ hk)
    have := hist_pairs l newH 0 0 (fun q hq => absurd hq (by simp [newH])) _ hm
    omega)
  have HOF := hid (ofT_eq l)
  rw [hL] at HC
  have HL := hid hL
  have HLL := hid hLl
  have HL2 := hid hl
  have hmk := fun W => run_mkint W L.length hLl
  have b1 : decide ((9223372036854775807 : Int) < (L.length : Int)) = false := by rw [decide_eq_false_iff_not]; omega
  have b2 : decide ((L.length : Int) < 0) = false := by rw [decide_eq_false_iff_not]; omega
  have b3 : ((l.length : Int) != (l.length : Int)) = false := by simp
  clear hl hK hT hE hc hz hs hI hL hLl hmax hcp
  dsimp only [trA] at HC HS HCK ⊢
  have HB : Hid (Below w.heap.size w (w.alloc (.cells #[.int .i64 T, .int .i64 V, .int .i64 S, .slice a l.length cap] 24))) := hid (ext_alloc (ext_refl _) _)
  have d := Blk.new w #[.int .i64 T, .int .i64 V, .int .i64 S, .slice a l.length cap] 24
  go_enter Tryd.func6, Tryd.ntmps6
  go_wp2_with fail
  refine (HW.out _ HB.out).mono ?_
  rintro e' w1 ⟨rfl, hb1⟩
  have d0 := later hb1 (d.cell 0 rfl)
  have d1 := later hb1 (d.cell 1 rfl)
  have d2 := later hb1 (d.cell 2 rfl)
  have d3 := later hb1 (d.cell 3 rfl)
  have HB1 := hid (ext_trans HB.out hb1)
  clear hb1 d
  go_wp2_with fail
  refine (HC.out _ HB1.out).mono ?_
  rintro e' w2 ⟨vo, rfl, hb2, hat⟩
  have HB2 := hid (ext_trans HB1.out hb2)
  have f0 := later hb2 d0
  have f1 := later hb2 d1
  have f2 := later hb2 d2
  have f3 := later hb2 d3
  have HAT := hid hat
  obtain ⟨vx, vc, rfl⟩ : ∃ g c, vo = .slice g L.length c := by
    obtain ⟨H, h1, _⟩ := hat
    obtain ⟨x, c, rfl⟩ := own_is h1
    exact ⟨_, _, rfl⟩
  clear hb2 hat d0 d1 d2 d3
  go_wp2_with fail
  refine (HS.out _ HB2.out).mono ?_
  rintro e' w3 ⟨vs, rfl, hb3, hsp⟩
  have HB3 := hid (ext_trans HB2.out hb3)
  have d0 := later hb3 f0
  have d1 := later hb3 f1
  have d2 := later hb3 f2
  have d3 := later hb3 f3
  have HSP := hid hsp
  have HB23 := hid hb3
  obtain ⟨sx, sc, rfl⟩ := own_is hsp
  clear hb3 hsp f0 f1 f2 f3
  go_wp2_with fail
  refine (HCK.out _ HB3.out).mono ?_
  rintro e' w4 ⟨rfl, hb4⟩
  have HB4 := hid (ext_trans HB3.out hb4)
  have HB34 := hid hb4
  have f3 : w4.cell? ⟨w.heap.size, 3, none⟩ = some (.slice a l.length cap) := later hb4 d3
  have hw4 := lt_of_cell f3
  have F3 := hid f3
  have HW4 := hid hw4
  clear hb4 d0 d1 d2 d3
  go_wp2_with fail
  clear f3 hw4
  go_loopw [11, 12] (fun b i wr => ∃ k B : Nat, k ≤ l.length ∧ i = .int .i64 (k : Int) ∧ b = .int .i64 (B : Int) ∧ Hid (B = begN l k) ∧ Hid (Blk wr w4.heap.size (rowN false l k L.length) 3) ∧ Hid (Blk wr (w4.heap.size + 1) (rowN true l k L.length) 3) ∧ Hid (Below w4.heap.size w4 wr)) (fun _ i _ => l.length - (intOf i).toNat)
  case atStart =>
    refine ⟨0, 0, Nat.zero_le _, rfl, rfl, hid rfl, hid ?_, hid ?_, hid (ext_alloc (ext_alloc (ext_refl _) _) _)⟩
    · rw [rowN_zero]; exact (Blk.new _ _ _).alloc _
    · rw [rowN_zero]; exact Blk.new' _ _ _ (by rw [World.size_alloc])
  case round =>
    obtain ⟨k, B, hk, rfl, rfl, HBN, HBR, HBW, HBL⟩ := hrel
    have HKL := hid hk
    by_cases hlt : k < l.length
    · have HLT := hid hlt
      have j1 : decide ((k : Int) < (l.length : Int)) = true := by rw [decide_eq_true_iff]; omega
      have j2 : (0 : Int) ≤ (k : Int) := by omega
      have j3 : IntKind.i64.wrap ((k : Int) + 1) = (k : Int) + 1 := IntWalk.i64_in _ (by have := HL2.out; omega)
      have j4 : decide (k < l.length) = true := by rw [decide_eq_true_iff]; omega
      have j5 : (k : Int) < (l.length : Int) := by omega
      have HBB : B ≤ k := by
        have h1 := hist_len (l.take k) newH 0
        have h0 : newH.out.length = 0 := rfl
        have h2 : (histT (l.take k)).out.length ≤ newH.out.length + (l.take k).length := h1
        rw [HBN.out]; unfold begN; rw [List.length_take] at h2; omega
      have jb3 : IntKind.i64.wrap ((B : Int) + 1) = (B : Int) + 1 := IntWalk.i64_in _ (by have := HL2.out; omega)
      have hBw := ext_trans HB4.out HBL.out
      obtain ⟨eb, eo, rfl, hev⟩ := HEV.out.2 (by intro h; rw [h] at hlt; exact absurd hlt (Nat.not_lt_zero _))
      obtain ⟨E, hE, hcnt, heach, hev⟩ : ∃ E, l[k]? = some E ∧ CntI l k E ∧ (E.kind ≠ 13 → ∃ K A, EachI l k E K A) ∧ (∀ j u, (evL E)[j]? = some u → w.cell? ⟨eb, eo + k * 7 + j, none⟩ = some u) := ⟨l[k], List.getElem?_eq_getElem hlt, HCNT.out k hlt, HEACH.out k hlt, hev k hlt⟩
      obtain ⟨kind, th, tx, at_, v, x, why⟩ := E
      have c0 := later hBw (hev 0 (.int .u8 kind) rfl)
      have c1 := later hBw (hev 1 (.int .i64 th) rfl)
      have c2 := later hBw (hev 2 (.int .i64 tx) rfl)
      have c3 := later hBw (hev 3 (.int .i64 at_) rfl)
      have c4 := later hBw (hev 4 (.int .i64 v) rfl)
      have c5 := later hBw (hev 5 (.int .i64 x) rfl)
      have c6 := later hBw (hev 6 (.int .u8 why) rfl)
      rw [Nat.add_zero] at c0
      have hge := lt_of_cell c0
      have f3 := later HBL.out F3.out
      have hwr := lt_of_cell f3
      obtain ⟨gs, sc', hsx, _, hgs⟩ := own_slice HSP.out (by omega)
      cases hsx
      have hof : (List.map (Value.int .i64) (ofT l))[k]? = some (.int .i64 (ofI l k)) := by rw [HOF.out, List.map_map, List.getElem?_map, List.getElem?_range hlt]; rfl
      have s0 := later (ext_trans HB34.out HBL.out) ((HSP.out.cellAt k (by omega)).trans hof)
      have hgs2 := lt_of_cell s0
      have hE13 := hE
      clear hgs hof hev hE hBw
      have HBLr := hid (ext_alloc (ext_refl wr) (.cells #[.int .u8 kind, .int .i64 th, .int .i64 tx, .int .i64 at_, .int .i64 v, .int .i64 x, .int .u8 why] 45))
      by_cases k13 : kind = 13
      · subst k13
        have h13 : ofI l k = -1 := by
          unfold ofI; rw [hE13]; dsimp only; unfold ofH; rw [if_neg (show ¬ (13 : Int) = 1 by decide), if_pos rfl]
        rw [h13] at s0
        have hb := hcnt.beg
        have hr := fun q => hcnt.oth false (by show (13 : Int) ≠ 3; decide) q
        have hw := fun q => hcnt.oth true (by show (13 : Int) ≠ 8; decide) q
        have HN := hid (And.intro hb (And.intro hr hw))
        clear hb hr hw h13 hcnt heach hk hlt
        go_wp2_with fail
        go_roundw
        case rel =>
          refine ⟨k + 1, B, HLT.out, rfl, rfl, hid (by rw [HN.out.1, HBN.out]; rfl), hid ?_, hid ?_, hid (HBL.out.trans (HBLr.out.mono HBL.out.size))⟩
          · rw [rowN_same HN.out.2.1]; exact HBR.out.below HBLr.out
          · rw [rowN_same HN.out.2.2]; exact HBW.out.below HBLr.out
        case measure => exact (by have := HLT.out; dsimp only [intOf]; omega)
      · have k13b : (kind == 13) = false := beq_eq_false_iff_ne.2 k13
        obtain ⟨K, A, ⟨e1, e2, e3, e4, e5, e6, e7, e8, e9, e10⟩⟩ := heach k13
        rw [HL.out] at e2 e3
        have hcK := fun b => hcnt.one b K e1
        have hco := hcnt.oth
        have hcb := hcnt.beg
        dsimp only at e4 e7 e8 e9 e10 hcK hco hcb
        rw [e1] at s0
        have K1 : decide ((K : Int) < (L.length : Int)) = true := by rw [decide_eq_true_iff]; omega
        have K2 : (0 : Int) ≤ (K : Int) := by omega
        have K3 : IntKind.i64.wrap ((K : Int) + 1) = (K : Int) + 1 := IntWalk.i64_in _ (by have := HLL.out; omega)
        have K4 : decide (K < L.length) = true := by rw [decide_eq_true_iff]; omega
        have K5 : (K : Int) < (L.length : Int) := by omega
        have hKneg : decide ((K : Int) < 0) = false := decide_eq_false (by omega)
        have hKge : decide ((L.length : Int) ≤ (K : Int)) = false := decide_eq_false (by omega)
        have hKge2 : decide (L.length ≤ K) = false := decide_eq_false (by omega)
        obtain ⟨g, c, H, hsl, hgl, hcell, hown⟩ := HAT.out.cells (by omega)
        cases hsl
        have hbx := ext_trans HB23.out (ext_trans HB34.out HBL.out)
        have hcw : ∀ (j : Nat) (u : Value), j < 9 → (attL (L.getD K Att.zero) (H K false) (H K true))[j]? = some u → wr.cell? ⟨g, K * 9 + j, none⟩ = some u := fun j u hj hu => later hbx (hcell K j u e2 hj hu)
        have hlens := HLEN.out K e2
        have hownR := hown K false e2
        have hownW := hown K true e2
        have hcr := HBR.out.cell K (rowN_get false l k L.length K e2)
        have hcx := HBW.out.cell K (rowN_get true l k L.length K e2)
        rw [e3] at hcw hownR hownW hlens
        have ecr : cntR false l k K = ((histT (l.take k)).out.getD K Att.zero).reads.length := rfl
        have ecx : cntR true l k K = ((histT (l.take k)).out.getD K Att.zero).writes.length := rfl
        rw [← ecr] at e8
        rw [← ecx] at e9
        have eb1 : B = (histT (l.take k)).out.length := HBN.out
        rw [← eb1] at e7
        obtain ⟨th2, tx2, fr, tw, rv, wv, com, rds, wrs⟩ := A
        dsimp only at e4 e5 e6 e7 e8 e9 e10 hlens
        subst e4
        have hownR : w2.ownsRow _ 36 2 (H K false) rds.length (pairsL rds) := hownR
        have hownW : w2.ownsRow _ 36 2 (H K true) wrs.length (pairsL wrs) := hownW
        obtain ⟨rn, hrn⟩ : ∃ rn, rds.length = rn := ⟨_, rfl⟩
        obtain ⟨wn, hwn⟩ : ∃ wn, wrs.length = wn := ⟨_, rfl⟩
        rw [hrn] at hownR hlens
        rw [hwn] at hownW hlens
        obtain ⟨rx, rc, hr⟩ := own_is hownR
        obtain ⟨wx, wc, hw⟩ := own_is hownW
        rw [hr] at hownR hcw
        rw [hw] at hownW hcw
        have a0 := hcw 0 (.int .i64 th2) (by decide) rfl
        have a1 := hcw 1 (.int .i64 tx2) (by decide) rfl
        have a2 := hcw 2 (.int .i64 fr) (by decide) rfl
        have a3 := hcw 3 (.int .i64 tw) (by decide) rfl
        have a4 := hcw 4 (.int .i64 rv) (by decide) rfl
        have a5 := hcw 5 (.int .i64 wv) (by decide) rfl
        have a6 := hcw 6 (.bool com) (by decide) rfl
        have a7 := hcw 7 (.slice rx rn rc) (by decide) rfl
        have a8 := hcw 8 (.slice wx wn wc) (by decide) rfl
        rw [Nat.add_zero] at a0
        have hga := lt_of_cell a0
        have u1 : decide ((k : Int) < fr) = false := decide_eq_false (by omega)
        have HOR := hid (And.intro hownR hrn)
        have HOW := hid (And.intro hownW hwn)
        have HBX := hid hbx
        have HCK2 := hid hcK
        have HCO := hid hco
        have HCB := hid hcb
        have E7 := hid e7
        have E8 := hid e8
        have E9 := hid e9
        have E10 := hid e10
        have EK := hid e2
        have HLN := hid hlens
        have HCR := hid hcr
        have HCX := hid hcx
        have EB1 := hid eb1
        have HBBh := hid HBB
        have HBL2 := hid (ext_alloc (ext_alloc (ext_refl wr) (.cells #[.int .u8 kind, .int .i64 th2, .int .i64 tx, .int .i64 at_, .int .i64 v, .int .i64 x, .int .u8 why] 45)) (.cells #[.int .i64 th2, .int .i64 tx2, .int .i64 fr, .int .i64 tw, .int .i64 rv, .int .i64 wv, .bool com, .slice rx rn rc, .slice wx wn wc] 33))
        clear HBLr hownR hownW hrn hwn hr hw hcw hcell hgl hown hbx hcK hco hcb e7 e8 e9 e10 e1 e2 e3 e5 hlens hcr hcx ecr ecx eb1 HBB hcnt heach hk hlt
        by_cases t1 : tw = -1
        case' pos =>
          have u2 : (tw != -1) = false := by rw [t1]; rfl
          clear t1 e6
        case' neg =>
          have u2 : (tw != -1) = true := bne_iff_ne.2 t1
          have u3 : decide (tw < (k : Int)) = false := decide_eq_false (by have := e6 t1; omega)
          clear t1 e6
        all_goals
          as_aux_lemma =>
            by_cases k1 : kind = 1
            · as_aux_lemma =>
                subst k1
                obtain ⟨r1, r2, r3, r4⟩ := E7.out rfl
                subst r1
                have r2b : (fr != (k : Int)) = false := by rw [r2]; simp
                have r3b : (tx2 != tx) = false := by rw [r3]; simp
                have r4b : (rv != v) = false := by rw [r4]; simp
                clear r2 r3 r4
                go_wp2_with fail
                go_roundw
                case rel =>
                  refine ⟨k + 1, K + 1, HLT.out, rfl, rfl, hid ?_, hid ?_, hid ?_, hid ?_⟩
                  · rw [HCB.out, HBN.out]; rfl
                  · rw [rowN_same (HCO.out false (by show (1 : Int) ≠ 3; decide))]; exact HBR.out.below HBL2.out
                  · rw [rowN_same (HCO.out true (by show (1 : Int) ≠ 8; decide))]; exact HBW.out.below HBL2.out
                  · exact HBL.out.trans (HBL2.out.mono HBL.out.size)
                case measure => exact (by have := HLT.out; dsimp only [intOf]; omega)
            · have KN1 := hid k1
              have k1b : (kind == 1) = false := beq_eq_false_iff_ne.2 k1
              clear k1
              by_cases k3 : kind = 3
              · as_aux_lemma =>
                  subst k3
                  have hpr := E8.out rfl
                  obtain ⟨gp, rfl, hcn, p1, p2⟩ := pair_in HOR.out.1 HOR.out.2 hpr
                  have p1 := later HBX.out p1
                  have p2 := later HBX.out p2
                  have hc0 := HCR.out
                  have HSET := hid ((HCK2.out false rfl))
                  obtain ⟨cc, hcc⟩ : ∃ cc, cntR false l k K = cc := ⟨_, rfl⟩
                  rw [hcc] at hc0 p1 p2 hcn
                  have HCC := hid hcc
                  have q1 : decide ((rn : Int) ≤ (cc : Int)) = false := decide_eq_false (by omega)
                  have q2 : decide (rn ≤ cc) = false := decide_eq_false (by omega)
                  have q3 : decide (cc < rn) = true := decide_eq_true hcn
                  have q4 : (0 : Int) ≤ (cc : Int) := by omega
                  have q5 : (cc : Int) < (rn : Int) := by omega
                  have q6 : IntKind.i64.wrap ((cc : Int) + 1) = (cc : Int) + 1 := IntWalk.i64_in _ (by have := HLN.out; omega)
                  have q7 : decide ((cc : Int) < (rn : Int)) = true := decide_eq_true q5
                  have hgp := lt_of_cell p1
                  have hgr := lt_of_cell hc0
                  clear hpr hcc
                  go_wp2_with fail
                  have hE := (Blk.new wr #[.int .u8 3, .int .i64 th2, .int .i64 tx, .int .i64 at_, .int .i64 v, .int .i64 x, .int .u8 why] 45).alloc (.cells #[.int .i64 th2, .int .i64 tx2, .int .i64 fr, .int .i64 tw, .int .i64 rv, .int .i64 wv, .bool com, .slice (some ⟨gp, 0, none⟩) rn rc, .slice wx wn wc] 33)
                  have hA := Blk.new' (wr.alloc (.cells #[.int .u8 3, .int .i64 th2, .int .i64 tx, .int .i64 at_, .int .i64 v, .int .i64 x, .int .u8 why] 45)) #[.int .i64 th2, .int .i64 tx2, .int .i64 fr, .int .i64 tw, .int .i64 rv, .int .i64 wv, .bool com, .slice (some ⟨gp, 0, none⟩) rn rc, .slice wx wn wc] 33 (b := wr.heap.size + 1) (by rw [World.size_alloc])
                  have p1 := later HBL2.out p1
                  have p2 := later HBL2.out p2
                  have s0 := later HBL2.out s0
                  have hc0 := later HBL2.out hc0
                  have hgs2 := Nat.lt_of_lt_of_le hgs2 HBL2.out.size
                  generalize ((wr.alloc (.cells #[.int .u8 3, .int .i64 th2, .int .i64 tx, .int .i64 at_, .int .i64 v, .int .i64 x, .int .u8 why] 45)).alloc (.cells #[.int .i64 th2, .int .i64 tx2, .int .i64 fr, .int .i64 tw, .int .i64 rv, .int .i64 wv, .bool com, .slice (some ⟨gp, 0, none⟩) rn rc, .slice wx wn wc] 33)) = wA at hE hA HBL2 p1 p2 s0 hc0 hgs2 ⊢
                  clear c0 c1 c2 c3 c4 c5 c6 a0 a1 a2 a3 a4 a5 a6 a7 a8 f3 hge hga
                  have HLA := hid hE.lt
                  have HLB := hid hA.lt
                  apply wp_region_known (fun qq => ([(.slice (some ⟨w4.heap.size, 0, none⟩) L.length L.length), (.slice (some ⟨gs, 0, none⟩) l.length sc), (.int .i64 (k : Int)), (.pointer (some ⟨gs, k, none⟩)), (.int .i64 (K : Int)), (.pointer (some ⟨w4.heap.size, K, none⟩)), (.int .i64 (cc : Int)), (.pointer (some ⟨wr.heap.size + 1, 7, none⟩)), (.slice (some ⟨gp, 0, none⟩) rn rc), (.int .i64 (rn : Int)), (.bool false), (.bool false), (WF false (.pointer (some ⟨wr.heap.size + 1, 7, none⟩))), (WF false (.slice (some ⟨gp, 0, none⟩) rn rc)), (WF false (.slice (some ⟨w4.heap.size, 0, none⟩) L.length L.length)), (WF false (.slice (some ⟨gs, 0, none⟩) l.length sc)), (WF false (.int .i64 (k : Int))), (WF false (.pointer (some ⟨gs, k, none⟩))), (WF false (.int .i64 (K : Int))), (WF false (.pointer (some ⟨w4.heap.size, K, none⟩))), (WF false (.int .i64 (cc : Int))), (WF false (.pointer (some ⟨gp, cc * 2, none⟩))), (WF false (.agg #[.int .i64 at_, .int .i64 x])), (WF false (.pointer (some ⟨wr.heap.size, 3, none⟩))), (WF false (.int .i64 at_)), (WF false (.pointer (some ⟨wr.heap.size, 5, none⟩))), (WF false (.int .i64 x)), (WF false (.agg #[.int .i64 at_, .int .i64 x])), (WF false (.bool false)), (.bool false)] : List Value).getD qq undef) (fun w' => Below wA.heap.size wA w')
                  focus (simp [putAll, dstOf, Act.put, List.getD]; rfl)
                  case hm => kernel_rfl
                  case hd => kernel_rfl
                  case hb => kernel_rfl
                  case hng => kernel_rfl
                  case hsz => kernel_rfl
                  case h0 => exact ext_drew (ext_refl _)
                  case hstep =>
                    refine ⟨?_, ?_, ?_, ?_, ?_, ?_, ?_, ?_, ?_, ?_, ?_, ?_, ?_, ?_, ?_, ?_, ?_, ?_, ?_, ?_, ?_, ?_, ?_, ?_, ?_, ?_, ?_, ?_, ?_, ?_, trivial⟩
                    · refine ⟨(fun g b h => by cases h), fun w' hG hg ρ h1 h2 h3 h4 h5 => ?_⟩
                      have hG := hid hG
                      have f9 : ρ (.tmp 9) = .slice (some ⟨w4.heap.size, 0, none⟩) L.length L.length := h5 9 (by kernel_rfl)
                      all_goals
                        try dsimp only [WF, WT] at *
                        clear h4 h5 hg
                        unfold OpY
                        go_simp
                        first | exact ⟨rfl, hG.out⟩ | exact ⟨Or.inr rfl, hG.out⟩ | exact ⟨Or.inl rfl, hG.out⟩
                    · refine ⟨(fun g b h => by cases h), fun w' hG hg ρ h1 h2 h3 h4 h5 => ?_⟩
                      have hG := hid hG
                      have f5 : ρ (.tmp 5) = .slice (some ⟨gs, 0, none⟩) l.length sc := h5 5 (by kernel_rfl)
                      all_goals
                        try dsimp only [WF, WT] at *
                        clear h4 h5 hg
                        unfold OpY
                        go_simp
                        first | exact ⟨rfl, hG.out⟩ | exact ⟨Or.inr rfl, hG.out⟩ | exact ⟨Or.inl rfl, hG.out⟩
                    · refine ⟨(fun g b h => by cases h), fun w' hG hg ρ h1 h2 h3 h4 h5 => ?_⟩
                      have hG := hid hG
                      have f12 : ρ (.tmp 12) = .int .i64 (k : Int) := h5 12 (by kernel_rfl)
                      all_goals
                        try dsimp only [WF, WT] at *
                        clear h4 h5 hg
                        unfold OpY
                        go_simp
                        first | exact ⟨rfl, hG.out⟩ | exact ⟨Or.inr rfl, hG.out⟩ | exact ⟨Or.inl rfl, hG.out⟩
                    · refine ⟨(fun g b h => by cases h), fun w' hG hg ρ h1 h2 h3 h4 h5 => ?_⟩
                      have hG := hid hG
                      have f177 : ρ (.tmp 177) = (.slice (some ⟨gs, 0, none⟩) l.length sc) := h4 1 177 (by kernel_rfl) (by kernel_rfl)
                      have f178 : ρ (.tmp 178) = (.int .i64 (k : Int)) := h4 2 178 (by kernel_rfl) (by kernel_rfl)
                      all_goals
                        try dsimp only [WF, WT] at *
                        clear h4 h5 hg
                        unfold OpY
                        go_simp
                        first | exact ⟨rfl, hG.out⟩ | exact ⟨Or.inr rfl, hG.out⟩ | exact ⟨Or.inl rfl, hG.out⟩
                    · refine ⟨(fun g b h => by cases h), fun w' hG hg ρ h1 h2 h3 h4 h5 => ?_⟩
                      have hG := hid hG
                      have f179 : ρ (.tmp 179) = (.pointer (some ⟨gs, k, none⟩)) := h4 3 179 (by kernel_rfl) (by kernel_rfl)
                      have hb := hG.out.size
                      have y := later hG.out s0
                      have ly := lt_of_cell y
                      all_goals
                        try dsimp only [WF, WT] at *
                        clear h4 h5 hg
                        unfold OpY
                        go_simp
                        first | exact ⟨rfl, hG.out⟩ | exact ⟨Or.inr rfl, hG.out⟩ | exact ⟨Or.inl rfl, hG.out⟩
                    · refine ⟨(fun g b h => by cases h), fun w' hG hg ρ h1 h2 h3 h4 h5 => ?_⟩
                      have hG := hid hG
                      have f176 : ρ (.tmp 176) = (.slice (some ⟨w4.heap.size, 0, none⟩) L.length L.length) := h4 0 176 (by kernel_rfl) (by kernel_rfl)
                      have f180 : ρ (.tmp 180) = (.int .i64 (K : Int)) := h4 4 180 (by kernel_rfl) (by kernel_rfl)
                      all_goals
                        try dsimp only [WF, WT] at *
                        clear h4 h5 hg
                        unfold OpY
                        go_simp
                        first | exact ⟨rfl, hG.out⟩ | exact ⟨Or.inr rfl, hG.out⟩ | exact ⟨Or.inl rfl, hG.out⟩
                    · refine ⟨(fun g b h => by cases h), fun w' hG hg ρ h1 h2 h3 h4 h5 => ?_⟩
                      have hG := hid hG
                      have f181 : ρ (.tmp 181) = (.pointer (some ⟨w4.heap.size, K, none⟩)) := h4 5 181 (by kernel_rfl) (by kernel_rfl)
                      have y := later hG.out hc0
                      have ly := lt_of_cell y
                      all_goals
                        try dsimp only [WF, WT] at *
                        clear h4 h5 hg
                        unfold OpY
                        go_simp
                        first | exact ⟨rfl, hG.out⟩ | exact ⟨Or.inr rfl, hG.out⟩ | exact ⟨Or.inl rfl, hG.out⟩
                    · refine ⟨(fun g b h => by cases h), fun w' hG hg ρ h1 h2 h3 h4 h5 => ?_⟩
                      have hG := hid hG
                      have f14 : ρ (.tmp 14) = .pointer (some ⟨wr.heap.size + 1, 0, none⟩) := h5 14 (by kernel_rfl)
                      all_goals
                        try dsimp only [WF, WT] at *
                        clear h4 h5 hg
                        unfold OpY
                        go_simp
                        first | exact ⟨rfl, hG.out⟩ | exact ⟨Or.inr rfl, hG.out⟩ | exact ⟨Or.inl rfl, hG.out⟩
                    · refine ⟨(fun g b h => by cases h), fun w' hG hg ρ h1 h2 h3 h4 h5 => ?_⟩
                      have hG := hid hG
                      have f183 : ρ (.tmp 183) = (.pointer (some ⟨wr.heap.size + 1, 7, none⟩)) := h4 7 183 (by kernel_rfl) (by kernel_rfl)
                      have y := (hA.below hG.out).cell 7 (v := .slice (some ⟨gp, 0, none⟩) rn rc) rfl
                      have ly := lt_of_cell y
                      all_goals
                        try dsimp only [WF, WT] at *
                        clear h4 h5 hg
                        unfold OpY
                        go_simp
                        first | exact ⟨rfl, hG.out⟩ | exact ⟨Or.inr rfl, hG.out⟩ | exact ⟨Or.inl rfl, hG.out⟩
                    · refine ⟨(fun g b h => by cases h), fun w' hG hg ρ h1 h2 h3 h4 h5 => ?_⟩
                      have hG := hid hG
                      have f184 : ρ (.tmp 184) = (.slice (some ⟨gp, 0, none⟩) rn rc) := h4 8 184 (by kernel_rfl) (by kernel_rfl)
                      all_goals
                        try dsimp only [WF, WT] at *
                        clear h4 h5 hg
                        unfold OpY
                        go_simp
                        first | exact ⟨rfl, hG.out⟩ | exact ⟨Or.inr rfl, hG.out⟩ | exact ⟨Or.inl rfl, hG.out⟩
                    · refine ⟨(fun g b h => by cases h), fun w' hG hg ρ h1 h2 h3 h4 h5 => ?_⟩
                      have hG := hid hG
                      have f182 : ρ (.tmp 182) = (.int .i64 (cc : Int)) := h4 6 182 (by kernel_rfl) (by kernel_rfl)
                      have f185 : ρ (.tmp 185) = (.int .i64 (rn : Int)) := h4 9 185 (by kernel_rfl) (by kernel_rfl)
                      all_goals
                        try dsimp only [WF, WT] at *
                        clear h4 h5 hg
                        unfold OpY
                        go_simp
                        first | exact ⟨rfl, hG.out⟩ | exact ⟨Or.inr rfl, hG.out⟩ | exact ⟨Or.inl rfl, hG.out⟩
                    · refine ⟨(fun g b h => by cases h), fun w' hG hg ρ h1 h2 h3 h4 h5 => ?_⟩
                      have hG := hid hG
                      have f186 : ρ (.tmp 186) = (.bool false) := h4 10 186 (by kernel_rfl) (by kernel_rfl)
                      all_goals
                        try dsimp only [WF, WT] at *
                        clear h4 h5 hg
                        unfold OpY
                        go_simp
                        first | exact ⟨rfl, hG.out⟩ | exact ⟨Or.inr rfl, hG.out⟩ | exact ⟨Or.inl rfl, hG.out⟩
                    · refine ⟨(fun g b h => by
                          obtain ⟨rfl, rfl⟩ := Prod.mk.inj (Option.some.inj h)
                          exact ⟨false, rfl, fun h => by first | rfl | exact absurd rfl h⟩), fun w' hG hg ρ h1 h2 h3 h4 h5 => ?_⟩
                      have hG := hid hG
                      have f14 : ρ (.tmp 14) = .pointer (some ⟨wr.heap.size + 1, 0, none⟩) := h5 14 (by kernel_rfl)
                      all_goals
                        try dsimp only [WF, WT] at *
                        clear h4 h5 hg
                        unfold OpY
                        go_simp
                        first | exact ⟨rfl, hG.out⟩ | exact ⟨Or.inr rfl, hG.out⟩ | exact ⟨Or.inl rfl, hG.out⟩
                    · refine ⟨(fun g b h => by
                          obtain ⟨rfl, rfl⟩ := Prod.mk.inj (Option.some.inj h)
                          exact ⟨false, rfl, fun h => by first | rfl | exact absurd rfl h⟩), fun w' hG hg ρ h1 h2 h3 h4 h5 => ?_⟩
                      have hG := hid hG
                      have f188 : ρ (.tmp 188) = (WF false (.pointer (some ⟨wr.heap.size + 1, 7, none⟩))) := h4 12 188 (by kernel_rfl) (by kernel_rfl)
                      have y := (hA.below hG.out).cell 7 (v := .slice (some ⟨gp, 0, none⟩) rn rc) rfl
                      have ly := lt_of_cell y
                      all_goals
                        try dsimp only [WF, WT] at *
                        clear h4 h5 hg
                        unfold OpY
                        go_simp
                        first | exact ⟨rfl, hG.out⟩ | exact ⟨Or.inr rfl, hG.out⟩ | exact ⟨Or.inl rfl, hG.out⟩
                    · refine ⟨(fun g b h => by
                          obtain ⟨rfl, rfl⟩ := Prod.mk.inj (Option.some.inj h)
                          exact ⟨false, rfl, fun h => by first | rfl | exact absurd rfl h⟩), fun w' hG hg ρ h1 h2 h3 h4 h5 => ?_⟩
                      have hG := hid hG
                      have f9 : ρ (.tmp 9) = .slice (some ⟨w4.heap.size, 0, none⟩) L.length L.length := h5 9 (by kernel_rfl)
                      all_goals
                        try dsimp only [WF, WT] at *
                        clear h4 h5 hg
                        unfold OpY
                        go_simp
                        first | exact ⟨rfl, hG.out⟩ | exact ⟨Or.inr rfl, hG.out⟩ | exact ⟨Or.inl rfl, hG.out⟩
                    · refine ⟨(fun g b h => by
                          obtain ⟨rfl, rfl⟩ := Prod.mk.inj (Option.some.inj h)
                          exact ⟨false, rfl, fun h => by first | rfl | exact absurd rfl h⟩), fun w' hG hg ρ h1 h2 h3 h4 h5 => ?_⟩
                      have hG := hid hG
                      have f5 : ρ (.tmp 5) = .slice (some ⟨gs, 0, none⟩) l.length sc := h5 5 (by kernel_rfl)
                      all_goals
                        try dsimp only [WF, WT] at *
                        clear h4 h5 hg
                        unfold OpY
                        go_simp
                        first | exact ⟨rfl, hG.out⟩ | exact ⟨Or.inr rfl, hG.out⟩ | exact ⟨Or.inl rfl, hG.out⟩
                    · refine ⟨(fun g b h => by
                          obtain ⟨rfl, rfl⟩ := Prod.mk.inj (Option.some.inj h)
                          exact ⟨false, rfl, fun h => by first | rfl | exact absurd rfl h⟩), fun w' hG hg ρ h1 h2 h3 h4 h5 => ?_⟩
                      have hG := hid hG
                      have f12 : ρ (.tmp 12) = .int .i64 (k : Int) := h5 12 (by kernel_rfl)
                      all_goals
                        try dsimp only [WF, WT] at *
                        clear h4 h5 hg
                        unfold OpY
                        go_simp
                        first | exact ⟨rfl, hG.out⟩ | exact ⟨Or.inr rfl, hG.out⟩ | exact ⟨Or.inl rfl, hG.out⟩
                    · refine ⟨(fun g b h => by
                          obtain ⟨rfl, rfl⟩ := Prod.mk.inj (Option.some.inj h)
                          exact ⟨false, rfl, fun h => by first | rfl | exact absurd rfl h⟩), fun w' hG hg ρ h1 h2 h3 h4 h5 => ?_⟩
                      have hG := hid hG
                      have f191 : ρ (.tmp 191) = (WF false (.slice (some ⟨gs, 0, none⟩) l.length sc)) := h4 15 191 (by kernel_rfl) (by kernel_rfl)
                      have f192 : ρ (.tmp 192) = (WF false (.int .i64 (k : Int))) := h4 16 192 (by kernel_rfl) (by kernel_rfl)
                      all_goals
                        try dsimp only [WF, WT] at *
                        clear h4 h5 hg
                        unfold OpY
                        go_simp
                        first | exact ⟨rfl, hG.out⟩ | exact ⟨Or.inr rfl, hG.out⟩ | exact ⟨Or.inl rfl, hG.out⟩
                    · refine ⟨(fun g b h => by
                          obtain ⟨rfl, rfl⟩ := Prod.mk.inj (Option.some.inj h)
                          exact ⟨false, rfl, fun h => by first | rfl | exact absurd rfl h⟩), fun w' hG hg ρ h1 h2 h3 h4 h5 => ?_⟩
                      have hG := hid hG
                      have f193 : ρ (.tmp 193) = (WF false (.pointer (some ⟨gs, k, none⟩))) := h4 17 193 (by kernel_rfl) (by kernel_rfl)
                      have hb := hG.out.size
                      have y := later hG.out s0
                      have ly := lt_of_cell y
                      all_goals
                        try dsimp only [WF, WT] at *
                        clear h4 h5 hg
                        unfold OpY
                        go_simp
                        first | exact ⟨rfl, hG.out⟩ | exact ⟨Or.inr rfl, hG.out⟩ | exact ⟨Or.inl rfl, hG.out⟩
                    · refine ⟨(fun g b h => by
                          obtain ⟨rfl, rfl⟩ := Prod.mk.inj (Option.some.inj h)
                          exact ⟨false, rfl, fun h => by first | rfl | exact absurd rfl h⟩), fun w' hG hg ρ h1 h2 h3 h4 h5 => ?_⟩
                      have hG := hid hG
                      have f190 : ρ (.tmp 190) = (WF false (.slice (some ⟨w4.heap.size, 0, none⟩) L.length L.length)) := h4 14 190 (by kernel_rfl) (by kernel_rfl)
                      have f194 : ρ (.tmp 194) = (WF false (.int .i64 (K : Int))) := h4 18 194 (by kernel_rfl) (by kernel_rfl)
                      all_goals
                        try dsimp only [WF, WT] at *
                        clear h4 h5 hg
                        unfold OpY
                        go_simp
                        first | exact ⟨rfl, hG.out⟩ | exact ⟨Or.inr rfl, hG.out⟩ | exact ⟨Or.inl rfl, hG.out⟩
                    · refine ⟨(fun g b h => by
                          obtain ⟨rfl, rfl⟩ := Prod.mk.inj (Option.some.inj h)
                          exact ⟨false, rfl, fun h => by first | rfl | exact absurd rfl h⟩), fun w' hG hg ρ h1 h2 h3 h4 h5 => ?_⟩
                      have hG := hid hG
                      have f195 : ρ (.tmp 195) = (WF false (.pointer (some ⟨w4.heap.size, K, none⟩))) := h4 19 195 (by kernel_rfl) (by kernel_rfl)
                      have y := later hG.out hc0
                      have ly := lt_of_cell y
                      all_goals
                        try dsimp only [WF, WT] at *
                        clear h4 h5 hg
                        unfold OpY
                        go_simp
                        first | exact ⟨rfl, hG.out⟩ | exact ⟨Or.inr rfl, hG.out⟩ | exact ⟨Or.inl rfl, hG.out⟩
                    · refine ⟨(fun g b h => by
                          obtain ⟨rfl, rfl⟩ := Prod.mk.inj (Option.some.inj h)
                          exact ⟨false, rfl, fun h => by first | rfl | exact absurd rfl h⟩), fun w' hG hg ρ h1 h2 h3 h4 h5 => ?_⟩
                      have hG := hid hG
                      have f189 : ρ (.tmp 189) = (WF false (.slice (some ⟨gp, 0, none⟩) rn rc)) := h4 13 189 (by kernel_rfl) (by kernel_rfl)
                      have f196 : ρ (.tmp 196) = (WF false (.int .i64 (cc : Int))) := h4 20 196 (by kernel_rfl) (by kernel_rfl)
                      all_goals
                        try dsimp only [WF, WT] at *
                        clear h4 h5 hg
                        unfold OpY
                        go_simp
                        first | exact ⟨rfl, hG.out⟩ | exact ⟨Or.inr rfl, hG.out⟩ | exact ⟨Or.inl rfl, hG.out⟩
                    · refine ⟨(fun g b h => by
                          obtain ⟨rfl, rfl⟩ := Prod.mk.inj (Option.some.inj h)
                          exact ⟨false, rfl, fun h => by first | rfl | exact absurd rfl h⟩), fun w' hG hg ρ h1 h2 h3 h4 h5 => ?_⟩
                      have hG := hid hG
                      have f197 : ρ (.tmp 197) = (WF false (.pointer (some ⟨gp, cc * 2, none⟩))) := h4 21 197 (by kernel_rfl) (by kernel_rfl)
                      have y := later hG.out p1
                      have y2 := later hG.out p2
                      have ly := lt_of_cell y
                      all_goals
                        try dsimp only [WF, WT] at *
                        clear h4 h5 hg
                        unfold OpY
                        go_simp
                        first | exact ⟨rfl, hG.out⟩ | exact ⟨Or.inr rfl, hG.out⟩ | exact ⟨Or.inl rfl, hG.out⟩
                    · refine ⟨(fun g b h => by
                          obtain ⟨rfl, rfl⟩ := Prod.mk.inj (Option.some.inj h)
                          exact ⟨false, rfl, fun h => by first | rfl | exact absurd rfl h⟩), fun w' hG hg ρ h1 h2 h3 h4 h5 => ?_⟩
                      have hG := hid hG
                      have f13 : ρ (.tmp 13) = .pointer (some ⟨wr.heap.size, 0, none⟩) := h5 13 (by kernel_rfl)
                      all_goals
                        try dsimp only [WF, WT] at *
                        clear h4 h5 hg
                        unfold OpY
                        go_simp
                        first | exact ⟨rfl, hG.out⟩ | exact ⟨Or.inr rfl, hG.out⟩ | exact ⟨Or.inl rfl, hG.out⟩
                    · refine ⟨(fun g b h => by
                          obtain ⟨rfl, rfl⟩ := Prod.mk.inj (Option.some.inj h)
                          exact ⟨false, rfl, fun h => by first | rfl | exact absurd rfl h⟩), fun w' hG hg ρ h1 h2 h3 h4 h5 => ?_⟩
                      have hG := hid hG
                      have f199 : ρ (.tmp 199) = (WF false (.pointer (some ⟨wr.heap.size, 3, none⟩))) := h4 23 199 (by kernel_rfl) (by kernel_rfl)
                      have y := (hE.below hG.out).cell 3 (v := .int .i64 at_) rfl
                      have ly := lt_of_cell y
                      all_goals
                        try dsimp only [WF, WT] at *
                        clear h4 h5 hg
                        unfold OpY
                        go_simp
                        first | exact ⟨rfl, hG.out⟩ | exact ⟨Or.inr rfl, hG.out⟩ | exact ⟨Or.inl rfl, hG.out⟩
                    · refine ⟨(fun g b h => by
                          obtain ⟨rfl, rfl⟩ := Prod.mk.inj (Option.some.inj h)
                          exact ⟨false, rfl, fun h => by first | rfl | exact absurd rfl h⟩), fun w' hG hg ρ h1 h2 h3 h4 h5 => ?_⟩
                      have hG := hid hG
                      have f13 : ρ (.tmp 13) = .pointer (some ⟨wr.heap.size, 0, none⟩) := h5 13 (by kernel_rfl)
                      all_goals
                        try dsimp only [WF, WT] at *
                        clear h4 h5 hg
                        unfold OpY
                        go_simp
                        first | exact ⟨rfl, hG.out⟩ | exact ⟨Or.inr rfl, hG.out⟩ | exact ⟨Or.inl rfl, hG.out⟩
                    · refine ⟨(fun g b h => by
                          obtain ⟨rfl, rfl⟩ := Prod.mk.inj (Option.some.inj h)
                          exact ⟨false, rfl, fun h => by first | rfl | exact absurd rfl h⟩), fun w' hG hg ρ h1 h2 h3 h4 h5 => ?_⟩
                      have hG := hid hG
                      have f201 : ρ (.tmp 201) = (WF false (.pointer (some ⟨wr.heap.size, 5, none⟩))) := h4 25 201 (by kernel_rfl) (by kernel_rfl)
                      have y := (hE.below hG.out).cell 5 (v := .int .i64 x) rfl
                      have ly := lt_of_cell y
                      all_goals
                        try dsimp only [WF, WT] at *
                        clear h4 h5 hg
                        unfold OpY
                        go_simp
                        first | exact ⟨rfl, hG.out⟩ | exact ⟨Or.inr rfl, hG.out⟩ | exact ⟨Or.inl rfl, hG.out⟩
                    · refine ⟨(fun g b h => by
                          obtain ⟨rfl, rfl⟩ := Prod.mk.inj (Option.some.inj h)
                          exact ⟨false, rfl, fun h => by first | rfl | exact absurd rfl h⟩), fun w' hG hg ρ h1 h2 h3 h4 h5 => ?_⟩
                      have hG := hid hG
                      have f200 : ρ (.tmp 200) = (WF false (.int .i64 at_)) := h4 24 200 (by kernel_rfl) (by kernel_rfl)
                      have f202 : ρ (.tmp 202) = (WF false (.int .i64 x)) := h4 26 202 (by kernel_rfl) (by kernel_rfl)
                      all_goals
                        try dsimp only [WF, WT] at *
                        clear h4 h5 hg
                        unfold OpY
                        go_simp
                        first | exact ⟨rfl, hG.out⟩ | exact ⟨Or.inr rfl, hG.out⟩ | exact ⟨Or.inl rfl, hG.out⟩
                    · refine ⟨(fun g b h => by
                          obtain ⟨rfl, rfl⟩ := Prod.mk.inj (Option.some.inj h)
                          exact ⟨false, rfl, fun h => by first | rfl | exact absurd rfl h⟩), fun w' hG hg ρ h1 h2 h3 h4 h5 => ?_⟩
                      have hG := hid hG
                      have f198 : ρ (.tmp 198) = (WF false (.agg #[.int .i64 at_, .int .i64 x])) := h4 22 198 (by kernel_rfl) (by kernel_rfl)
                      have f203 : ρ (.tmp 203) = (WF false (.agg #[.int .i64 at_, .int .i64 x])) := h4 27 203 (by kernel_rfl) (by kernel_rfl)
                      all_goals
                        try dsimp only [WF, WT] at *
                        clear h4 h5 hg
                        unfold OpY
                        go_simp
                        first | exact ⟨rfl, hG.out⟩ | exact ⟨Or.inr rfl, hG.out⟩ | exact ⟨Or.inl rfl, hG.out⟩
                    · refine ⟨(fun g b h => by cases h), fun w' hG hg ρ h1 h2 h3 h4 h5 => ?_⟩
                      have hG := hid hG
                      have f187 : ρ (.tmp 187) = (.bool false) := h4 11 187 (by kernel_rfl) (by kernel_rfl)
                      have f204 : ρ (.tmp 204) = (WF false (.bool false)) := h4 28 204 (by kernel_rfl) (by kernel_rfl)
                      all_goals
                        try dsimp only [WF, WT] at *
                        clear h4 h5 hg
                        unfold OpY
                        go_simp
                        first | exact ⟨rfl, hG.out⟩ | exact ⟨Or.inr rfl, hG.out⟩ | exact ⟨Or.inl rfl, hG.out⟩
                  case hdone =>
                    intro w6 hG
                    have s0 := later hG s0
                    have hc0 := later hG hc0
                    have HG := hid hG
                    have HBK := hid ((HBR.out.below HBL2.out).below hG)
                    have HBO := hid ((HBW.out.below HBL2.out).below hG)
                    have zz := HBK.out.free K
                    have l1 := lt_of_cell s0
                    have l2 := lt_of_cell hc0
                    clear hG p1 p2 hE hA
                    go_wp2_with fail
                    go_roundw
                    case rel =>
                      refine ⟨k + 1, B, HLT.out, rfl, rfl, hid ?_, hid ?_, hid ?_, hid ?_⟩
                      · rw [HCB.out, HBN.out]; (first | rfl | (rw [if_neg KN1.out]; rfl))
                      · rw [← rowN_set (HSET.out).1 (HSET.out).2, HCC.out]; exact HBK.out.set K (.int .i64 ((cc : Int) + 1))
                      · rw [rowN_same (HCO.out true (by show (3 : Int) ≠ 8; decide))]; exact HBO.out.set_other ⟨w4.heap.size, K, none⟩ (.int .i64 ((cc : Int) + 1)) (by simp)
                      · exact ((HBL.out.trans (HBL2.out.mono HBL.out.size)).trans (HG.out.mono (Nat.le_trans HBL.out.size HBL2.out.size))).setCell (p := ⟨w4.heap.size, K, none⟩) (by simp) (.int .i64 ((cc : Int) + 1))
                    case measure => exact (by have := HLT.out; dsimp only [intOf]; omega)
              · have KN3 := hid k3
                have k3b : (kind == 3) = false := beq_eq_false_iff_ne.2 k3
                clear k3
                by_cases k8 : kind = 8
                · as_aux_lemma =>
                    subst k8
                    have hpr := E9.out rfl
                    obtain ⟨gp, rfl, hcn, p1, p2⟩ := pair_in HOW.out.1 HOW.out.2 hpr
                    have p1 := later HBX.out p1
                    have p2 := later HBX.out p2
                    have hc0 := HCX.out
                    have HSET := hid ((HCK2.out true rfl))
                    obtain ⟨cc, hcc⟩ : ∃ cc, cntR true l k K = cc := ⟨_, rfl⟩
                    rw [hcc] at hc0 p1 p2 hcn
                    have HCC := hid hcc
                    have q1 : decide ((wn : Int) ≤ (cc : Int)) = false := decide_eq_false (by omega)
                    have q2 : decide (wn ≤ cc) = false := decide_eq_false (by omega)
                    have q3 : decide (cc < wn) = true := decide_eq_true hcn
                    have q4 : (0 : Int) ≤ (cc : Int) := by omega
                    have q5 : (cc : Int) < (wn : Int) := by omega
                    have q6 : IntKind.i64.wrap ((cc : Int) + 1) = (cc : Int) + 1 := IntWalk.i64_in _ (by have := HLN.out; omega)
                    have q7 : decide ((cc : Int) < (wn : Int)) = true := decide_eq_true q5
                    have hgp := lt_of_cell p1
                    have hgr := lt_of_cell hc0
                    clear hpr hcc
                    go_wp2_with fail
                    have hE := (Blk.new wr #[.int .u8 8, .int .i64 th2, .int .i64 tx, .int .i64 at_, .int .i64 v, .int .i64 x, .int .u8 why] 45).alloc (.cells #[.int .i64 th2, .int .i64 tx2, .int .i64 fr, .int .i64 tw, .int .i64 rv, .int .i64 wv, .bool com, .slice rx rn rc, .slice (some ⟨gp, 0, none⟩) wn wc] 33)
                    have hA := Blk.new' (wr.alloc (.cells #[.int .u8 8, .int .i64 th2, .int .i64 tx, .int .i64 at_, .int .i64 v, .int .i64 x, .int .u8 why] 45)) #[.int .i64 th2, .int .i64 tx2, .int .i64 fr, .int .i64 tw, .int .i64 rv, .int .i64 wv, .bool com, .slice rx rn rc, .slice (some ⟨gp, 0, none⟩) wn wc] 33 (b := wr.heap.size + 1) (by rw [World.size_alloc])
                    have p1 := later HBL2.out p1
                    have p2 := later HBL2.out p2
                    have s0 := later HBL2.out s0
                    have hc0 := later HBL2.out hc0
                    have hgs2 := Nat.lt_of_lt_of_le hgs2 HBL2.out.size
                    generalize ((wr.alloc (.cells #[.int .u8 8, .int .i64 th2, .int .i64 tx, .int .i64 at_, .int .i64 v, .int .i64 x, .int .u8 why] 45)).alloc (.cells #[.int .i64 th2, .int .i64 tx2, .int .i64 fr, .int .i64 tw, .int .i64 rv, .int .i64 wv, .bool com, .slice rx rn rc, .slice (some ⟨gp, 0, none⟩) wn wc] 33)) = wA at hE hA HBL2 p1 p2 s0 hc0 hgs2 ⊢
                    clear c0 c1 c2 c3 c4 c5 c6 a0 a1 a2 a3 a4 a5 a6 a7 a8 f3 hge hga
                    have HLA := hid hE.lt
                    have HLB := hid hA.lt
                    apply wp_region_known (fun qq => ([(.slice (some ⟨w4.heap.size + 1, 0, none⟩) L.length L.length), (.slice (some ⟨gs, 0, none⟩) l.length sc), (.int .i64 (k : Int)), (.pointer (some ⟨gs, k, none⟩)), (.int .i64 (K : Int)), (.pointer (some ⟨w4.heap.size + 1, K, none⟩)), (.int .i64 (cc : Int)), (.pointer (some ⟨wr.heap.size + 1, 8, none⟩)), (.slice (some ⟨gp, 0, none⟩) wn wc), (.int .i64 (wn : Int)), (.bool false), (.bool false), (WF false (.pointer (some ⟨wr.heap.size + 1, 8, none⟩))), (WF false (.slice (some ⟨gp, 0, none⟩) wn wc)), (WF false (.slice (some ⟨w4.heap.size + 1, 0, none⟩) L.length L.length)), (WF false (.slice (some ⟨gs, 0, none⟩) l.length sc)), (WF false (.int .i64 (k : Int))), (WF false (.pointer (some ⟨gs, k, none⟩))), (WF false (.int .i64 (K : Int))), (WF false (.pointer (some ⟨w4.heap.size + 1, K, none⟩))), (WF false (.int .i64 (cc : Int))), (WF false (.pointer (some ⟨gp, cc * 2, none⟩))), (WF false (.agg #[.int .i64 at_, .int .i64 x])), (WF false (.pointer (some ⟨wr.heap.size, 3, none⟩))), (WF false (.int .i64 at_)), (WF false (.pointer (some ⟨wr.heap.size, 5, none⟩))), (WF false (.int .i64 x)), (WF false (.agg #[.int .i64 at_, .int .i64 x])), (WF false (.bool false)), (.bool false)] : List Value).getD qq undef) (fun w' => Below wA.heap.size wA w')
                    focus (simp [putAll, dstOf, Act.put, List.getD]; rfl)
                    case hm => kernel_rfl
                    case hd => kernel_rfl
                    case hb => kernel_rfl
                    case hng => kernel_rfl
                    case hsz => kernel_rfl
                    case h0 => exact ext_drew (ext_refl _)
                    case hstep =>
                      refine ⟨?_, ?_, ?_, ?_, ?_, ?_, ?_, ?_, ?_, ?_, ?_, ?_, ?_, ?_, ?_, ?_, ?_, ?_, ?_, ?_, ?_, ?_, ?_, ?_, ?_, ?_, ?_, ?_, ?_, ?_, trivial⟩
                      · refine ⟨(fun g b h => by cases h), fun w' hG hg ρ h1 h2 h3 h4 h5 => ?_⟩
                        have hG := hid hG
                        have f10 : ρ (.tmp 10) = .slice (some ⟨w4.heap.size + 1, 0, none⟩) L.length L.length := h5 10 (by kernel_rfl)
                        all_goals
                          try dsimp only [WF, WT] at *
                          clear h4 h5 hg
                          unfold OpY
                          go_simp
                          first | exact ⟨rfl, hG.out⟩ | exact ⟨Or.inr rfl, hG.out⟩ | exact ⟨Or.inl rfl, hG.out⟩
                      · refine ⟨(fun g b h => by cases h), fun w' hG hg ρ h1 h2 h3 h4 h5 => ?_⟩
                        have hG := hid hG
                        have f5 : ρ (.tmp 5) = .slice (some ⟨gs, 0, none⟩) l.length sc := h5 5 (by kernel_rfl)
                        all_goals
                          try dsimp only [WF, WT] at *
                          clear h4 h5 hg
                          unfold OpY
                          go_simp
                          first | exact ⟨rfl, hG.out⟩ | exact ⟨Or.inr rfl, hG.out⟩ | exact ⟨Or.inl rfl, hG.out⟩
                      · refine ⟨(fun g b h => by cases h), fun w' hG hg ρ h1 h2 h3 h4 h5 => ?_⟩
                        have hG := hid hG
                        have f12 : ρ (.tmp 12) = .int .i64 (k : Int) := h5 12 (by kernel_rfl)
                        all_goals
                          try dsimp only [WF, WT] at *
                          clear h4 h5 hg
                          unfold OpY
                          go_simp
                          first | exact ⟨rfl, hG.out⟩ | exact ⟨Or.inr rfl, hG.out⟩ | exact ⟨Or.inl rfl, hG.out⟩
                      · refine ⟨(fun g b h => by cases h), fun w' hG hg ρ h1 h2 h3 h4 h5 => ?_⟩
                        have hG := hid hG
                        have f218 : ρ (.tmp 218) = (.slice (some ⟨gs, 0, none⟩) l.length sc) := h4 1 218 (by kernel_rfl) (by kernel_rfl)
                        have f219 : ρ (.tmp 219) = (.int .i64 (k : Int)) := h4 2 219 (by kernel_rfl) (by kernel_rfl)
                        all_goals
                          try dsimp only [WF, WT] at *
                          clear h4 h5 hg
                          unfold OpY
                          go_simp
                          first | exact ⟨rfl, hG.out⟩ | exact ⟨Or.inr rfl, hG.out⟩ | exact ⟨Or.inl rfl, hG.out⟩
                      · refine ⟨(fun g b h => by cases h), fun w' hG hg ρ h1 h2 h3 h4 h5 => ?_⟩
                        have hG := hid hG
                        have f220 : ρ (.tmp 220) = (.pointer (some ⟨gs, k, none⟩)) := h4 3 220 (by kernel_rfl) (by kernel_rfl)
                        have hb := hG.out.size
                        have y := later hG.out s0
                        have ly := lt_of_cell y
                        all_goals
                          try dsimp only [WF, WT] at *
                          clear h4 h5 hg
                          unfold OpY
                          go_simp
                          first | exact ⟨rfl, hG.out⟩ | exact ⟨Or.inr rfl, hG.out⟩ | exact ⟨Or.inl rfl, hG.out⟩
                      · refine ⟨(fun g b h => by cases h), fun w' hG hg ρ h1 h2 h3 h4 h5 => ?_⟩
                        have hG := hid hG
                        have f217 : ρ (.tmp 217) = (.slice (some ⟨w4.heap.size + 1, 0, none⟩) L.length L.length) := h4 0 217 (by kernel_rfl) (by kernel_rfl)
                        have f221 : ρ (.tmp 221) = (.int .i64 (K : Int)) := h4 4 221 (by kernel_rfl) (by kernel_rfl)
                        all_goals
                          try dsimp only [WF, WT] at *
                          clear h4 h5 hg
                          unfold OpY
                          go_simp
                          first | exact ⟨rfl, hG.out⟩ | exact ⟨Or.inr rfl, hG.out⟩ | exact ⟨Or.inl rfl, hG.out⟩
                      · refine ⟨(fun g b h => by cases h), fun w' hG hg ρ h1 h2 h3 h4 h5 => ?_⟩
                        have hG := hid hG
                        have f222 : ρ (.tmp 222) = (.pointer (some ⟨w4.heap.size + 1, K, none⟩)) := h4 5 222 (by kernel_rfl) (by kernel_rfl)
                        have y := later hG.out hc0
                        have ly := lt_of_cell y
                        all_goals
                          try dsimp only [WF, WT] at *
                          clear h4 h5 hg
                          unfold OpY
                          go_simp
                          first | exact ⟨rfl, hG.out⟩ | exact ⟨Or.inr rfl, hG.out⟩ | exact ⟨Or.inl rfl, hG.out⟩
                      · refine ⟨(fun g b h => by cases h), fun w' hG hg ρ h1 h2 h3 h4 h5 => ?_⟩
                        have hG := hid hG
                        have f14 : ρ (.tmp 14) = .pointer (some ⟨wr.heap.size + 1, 0, none⟩) := h5 14 (by kernel_rfl)
                        all_goals
                          try dsimp only [WF, WT] at *
                          clear h4 h5 hg
                          unfold OpY
                          go_simp
                          first | exact ⟨rfl, hG.out⟩ | exact ⟨Or.inr rfl, hG.out⟩ | exact ⟨Or.inl rfl, hG.out⟩
                      · refine ⟨(fun g b h => by cases h), fun w' hG hg ρ h1 h2 h3 h4 h5 => ?_⟩
                        have hG := hid hG
                        have f224 : ρ (.tmp 224) = (.pointer (some ⟨wr.heap.size + 1, 8, none⟩)) := h4 7 224 (by kernel_rfl) (by kernel_rfl)
                        have y := (hA.below hG.out).cell 8 (v := .slice (some ⟨gp, 0, none⟩) wn wc) rfl
                        have ly := lt_of_cell y
                        all_goals
                          try dsimp only [WF, WT] at *
                          clear h4 h5 hg
                          unfold OpY
                          go_simp
                          first | exact ⟨rfl, hG.out⟩ | exact ⟨Or.inr rfl, hG.out⟩ | exact ⟨Or.inl rfl, hG.out⟩
                      · refine ⟨(fun g b h => by cases h), fun w' hG hg ρ h1 h2 h3 h4 h5 => ?_⟩
                        have hG := hid hG
                        have f225 : ρ (.tmp 225) = (.slice (some ⟨gp, 0, none⟩) wn wc) := h4 8 225 (by kernel_rfl) (by kernel_rfl)
                        all_goals
                          try dsimp only [WF, WT] at *
                          clear h4 h5 hg
                          unfold OpY
                          go_simp
                          first | exact ⟨rfl, hG.out⟩ | exact ⟨Or.inr rfl, hG.out⟩ | exact ⟨Or.inl rfl, hG.out⟩
                      · refine ⟨(fun g b h => by cases h), fun w' hG hg ρ h1 h2 h3 h4 h5 => ?_⟩
                        have hG := hid hG
                        have f223 : ρ (.tmp 223) = (.int .i64 (cc : Int)) := h4 6 223 (by kernel_rfl) (by kernel_rfl)
                        have f226 : ρ (.tmp 226) = (.int .i64 (wn : Int)) := h4 9 226 (by kernel_rfl) (by kernel_rfl)
                        all_goals
                          try dsimp only [WF, WT] at *
                          clear h4 h5 hg
                          unfold OpY
                          go_simp
                          first | exact ⟨rfl, hG.out⟩ | exact ⟨Or.inr rfl, hG.out⟩ | exact ⟨Or.inl rfl, hG.out⟩
                      · refine ⟨(fun g b h => by cases h), fun w' hG hg ρ h1 h2 h3 h4 h5 => ?_⟩
                        have hG := hid hG
                        have f227 : ρ (.tmp 227) = (.bool false) := h4 10 227 (by kernel_rfl) (by kernel_rfl)
                        all_goals
                          try dsimp only [WF, WT] at *
                          clear h4 h5 hg
                          unfold OpY
                          go_simp
                          first | exact ⟨rfl, hG.out⟩ | exact ⟨Or.inr rfl, hG.out⟩ | exact ⟨Or.inl rfl, hG.out⟩
                      · refine ⟨(fun g b h => by
                            obtain ⟨rfl, rfl⟩ := Prod.mk.inj (Option.some.inj h)
                            exact ⟨false, rfl, fun h => by first | rfl | exact absurd rfl h⟩), fun w' hG hg ρ h1 h2 h3 h4 h5 => ?_⟩
                        have hG := hid hG
                        have f14 : ρ (.tmp 14) = .pointer (some ⟨wr.heap.size + 1, 0, none⟩) := h5 14 (by kernel_rfl)
                        all_goals
                          try dsimp only [WF, WT] at *
                          clear h4 h5 hg
                          unfold OpY
                          go_simp
                          first | exact ⟨rfl, hG.out⟩ | exact ⟨Or.inr rfl, hG.out⟩ | exact ⟨Or.inl rfl, hG.out⟩
                      · refine ⟨(fun g b h => by
                            obtain ⟨rfl, rfl⟩ := Prod.mk.inj (Option.some.inj h)
                            exact ⟨false, rfl, fun h => by first | rfl | exact absurd rfl h⟩), fun w' hG hg ρ h1 h2 h3 h4 h5 => ?_⟩
                        have hG := hid hG
                        have f229 : ρ (.tmp 229) = (WF false (.pointer (some ⟨wr.heap.size + 1, 8, none⟩))) := h4 12 229 (by kernel_rfl) (by kernel_rfl)
                        have y := (hA.below hG.out).cell 8 (v := .slice (some ⟨gp, 0, none⟩) wn wc) rfl
                        have ly := lt_of_cell y
                        all_goals
                          try dsimp only [WF, WT] at *
                          clear h4 h5 hg
                          unfold OpY
                          go_simp
                          first | exact ⟨rfl, hG.out⟩ | exact ⟨Or.inr rfl, hG.out⟩ | exact ⟨Or.inl rfl, hG.out⟩
                      · refine ⟨(fun g b h => by
                            obtain ⟨rfl, rfl⟩ := Prod.mk.inj (Option.some.inj h)
                            exact ⟨false, rfl, fun h => by first | rfl | exact absurd rfl h⟩), fun w' hG hg ρ h1 h2 h3 h4 h5 => ?_⟩
                        have hG := hid hG
                        have f10 : ρ (.tmp 10) = .slice (some ⟨w4.heap.size + 1, 0, none⟩) L.length L.length := h5 10 (by kernel_rfl)
                        all_goals
                          try dsimp only [WF, WT] at *
                          clear h4 h5 hg
                          unfold OpY
                          go_simp
                          first | exact ⟨rfl, hG.out⟩ | exact ⟨Or.inr rfl, hG.out⟩ | exact ⟨Or.inl rfl, hG.out⟩
                      · refine ⟨(fun g b h => by
                            obtain ⟨rfl, rfl⟩ := Prod.mk.inj (Option.some.inj h)
                            exact ⟨false, rfl, fun h => by first | rfl | exact absurd rfl h⟩), fun w' hG hg ρ h1 h2 h3 h4 h5 => ?_⟩
                        have hG := hid hG
                        have f5 : ρ (.tmp 5) = .slice (some ⟨gs, 0, none⟩) l.length sc := h5 5 (by kernel_rfl)
                        all_goals
                          try dsimp only [WF, WT] at *
                          clear h4 h5 hg
                          unfold OpY
                          go_simp
                          first | exact ⟨rfl, hG.out⟩ | exact ⟨Or.inr rfl, hG.out⟩ | exact ⟨Or.inl rfl, hG.out⟩
                      · refine ⟨(fun g b h => by
                            obtain ⟨rfl, rfl⟩ := Prod.mk.inj (Option.some.inj h)
                            exact ⟨false, rfl, fun h => by first | rfl | exact absurd rfl h⟩), fun w' hG hg ρ h1 h2 h3 h4 h5 => ?_⟩
                        have hG := hid hG
                        have f12 : ρ (.tmp 12) = .int .i64 (k : Int) := h5 12 (by kernel_rfl)
                        all_goals
                          try dsimp only [WF, WT] at *
                          clear h4 h5 hg
                          unfold OpY
                          go_simp
                          first | exact ⟨rfl, hG.out⟩ | exact ⟨Or.inr rfl, hG.out⟩ | exact ⟨Or.inl rfl, hG.out⟩
                      · refine ⟨(fun g b h => by
                            obtain ⟨rfl, rfl⟩ := Prod.mk.inj (Option.some.inj h)
                            exact ⟨false, rfl, fun h => by first | rfl | exact absurd rfl h⟩), fun w' hG hg ρ h1 h2 h3 h4 h5 => ?_⟩
                        have hG := hid hG
                        have f232 : ρ (.tmp 232) = (WF false (.slice (some ⟨gs, 0, none⟩) l.length sc)) := h4 15 232 (by kernel_rfl) (by kernel_rfl)
                        have f233 : ρ (.tmp 233) = (WF false (.int .i64 (k : Int))) := h4 16 233 (by kernel_rfl) (by kernel_rfl)
                        all_goals
                          try dsimp only [WF, WT] at *
                          clear h4 h5 hg
                          unfold OpY
                          go_simp
                          first | exact ⟨rfl, hG.out⟩ | exact ⟨Or.inr rfl, hG.out⟩ | exact ⟨Or.inl rfl, hG.out⟩
                      · refine ⟨(fun g b h => by
                            obtain ⟨rfl, rfl⟩ := Prod.mk.inj (Option.some.inj h)
                            exact ⟨false, rfl, fun h => by first | rfl | exact absurd rfl h⟩), fun w' hG hg ρ h1 h2 h3 h4 h5 => ?_⟩
                        have hG := hid hG
                        have f234 : ρ (.tmp 234) = (WF false (.pointer (some ⟨gs, k, none⟩))) := h4 17 234 (by kernel_rfl) (by kernel_rfl)
                        have hb := hG.out.size
                        have y := later hG.out s0
                        have ly := lt_of_cell y
                        all_goals
                          try dsimp only [WF, WT] at *
                          clear h4 h5 hg
                          unfold OpY
                          go_simp
                          first | exact ⟨rfl, hG.out⟩ | exact ⟨Or.inr rfl, hG.out⟩ | exact ⟨Or.inl rfl, hG.out⟩
                      · refine ⟨(fun g b h => by
                            obtain ⟨rfl, rfl⟩ := Prod.mk.inj (Option.some.inj h)
                            exact ⟨false, rfl, fun h => by first | rfl | exact absurd rfl h⟩), fun w' hG hg ρ h1 h2 h3 h4 h5 => ?_⟩
                        have hG := hid hG
                        have f231 : ρ (.tmp 231) = (WF false (.slice (some ⟨w4.heap.size + 1, 0, none⟩) L.length L.length)) := h4 14 231 (by kernel_rfl) (by kernel_rfl)
                        have f235 : ρ (.tmp 235) = (WF false (.int .i64 (K : Int))) := h4 18 235 (by kernel_rfl) (by kernel_rfl)
                        all_goals
                          try dsimp only [WF, WT] at *
                          clear h4 h5 hg
                          unfold OpY
                          go_simp
                          first | exact ⟨rfl, hG.out⟩ | exact ⟨Or.inr rfl, hG.out⟩ | exact ⟨Or.inl rfl, hG.out⟩
                      · refine ⟨(fun g b h => by
                            obtain ⟨rfl, rfl⟩ := Prod.mk.inj (Option.some.inj h)
                            exact ⟨false, rfl, fun h => by first | rfl | exact absurd rfl h⟩), fun w' hG hg ρ h1 h2 h3 h4 h5 => ?_⟩
                        have hG := hid hG
                        have f236 : ρ (.tmp 236) = (WF false (.pointer (some ⟨w4.heap.size + 1, K, none⟩))) := h4 19 236 (by kernel_rfl) (by kernel_rfl)
                        have y := later hG.out hc0
                        have ly := lt_of_cell y
                        all_goals
                          try dsimp only [WF, WT] at *
                          clear h4 h5 hg
                          unfold OpY
                          go_simp
                          first | exact ⟨rfl, hG.out⟩ | exact ⟨Or.inr rfl, hG.out⟩ | exact ⟨Or.inl rfl, hG.out⟩
                      · refine ⟨(fun g b h => by
                            obtain ⟨rfl, rfl⟩ := Prod.mk.inj (Option.some.inj h)
                            exact ⟨false, rfl, fun h => by first | rfl | exact absurd rfl h⟩), fun w' hG hg ρ h1 h2 h3 h4 h5 => ?_⟩
                        have hG := hid hG
                        have f230 : ρ (.tmp 230) = (WF false (.slice (some ⟨gp, 0, none⟩) wn wc)) := h4 13 230 (by kernel_rfl) (by kernel_rfl)
                        have f237 : ρ (.tmp 237) = (WF false (.int .i64 (cc : Int))) := h4 20 237 (by kernel_rfl) (by kernel_rfl)
                        all_goals
                          try dsimp only [WF, WT] at *
                          clear h4 h5 hg
                          unfold OpY
                          go_simp
                          first | exact ⟨rfl, hG.out⟩ | exact ⟨Or.inr rfl, hG.out⟩ | exact ⟨Or.inl rfl, hG.out⟩
                      · refine ⟨(fun g b h => by
                            obtain ⟨rfl, rfl⟩ := Prod.mk.inj (Option.some.inj h)
                            exact ⟨false, rfl, fun h => by first | rfl | exact absurd rfl h⟩), fun w' hG hg ρ h1 h2 h3 h4 h5 => ?_⟩
                        have hG := hid hG
                        have f238 : ρ (.tmp 238) = (WF false (.pointer (some ⟨gp, cc * 2, none⟩))) := h4 21 238 (by kernel_rfl) (by kernel_rfl)
                        have y := later hG.out p1
                        have y2 := later hG.out p2
                        have ly := lt_of_cell y
                        all_goals
                          try dsimp only [WF, WT] at *
                          clear h4 h5 hg
                          unfold OpY
                          go_simp
                          first | exact ⟨rfl, hG.out⟩ | exact ⟨Or.inr rfl, hG.out⟩ | exact ⟨Or.inl rfl, hG.out⟩
                      · refine ⟨(fun g b h => by
                            obtain ⟨rfl, rfl⟩ := Prod.mk.inj (Option.some.inj h)
                            exact ⟨false, rfl, fun h => by first | rfl | exact absurd rfl h⟩), fun w' hG hg ρ h1 h2 h3 h4 h5 => ?_⟩
                        have hG := hid hG
                        have f13 : ρ (.tmp 13) = .pointer (some ⟨wr.heap.size, 0, none⟩) := h5 13 (by kernel_rfl)
                        all_goals
                          try dsimp only [WF, WT] at *
                          clear h4 h5 hg
                          unfold OpY
                          go_simp
                          first | exact ⟨rfl, hG.out⟩ | exact ⟨Or.inr rfl, hG.out⟩ | exact ⟨Or.inl rfl, hG.out⟩
                      · refine ⟨(fun g b h => by
                            obtain ⟨rfl, rfl⟩ := Prod.mk.inj (Option.some.inj h)
                            exact ⟨false, rfl, fun h => by first | rfl | exact absurd rfl h⟩), fun w' hG hg ρ h1 h2 h3 h4 h5 => ?_⟩
                        have hG := hid hG
                        have f240 : ρ (.tmp 240) = (WF false (.pointer (some ⟨wr.heap.size, 3, none⟩))) := h4 23 240 (by kernel_rfl) (by kernel_rfl)
                        have y := (hE.below hG.out).cell 3 (v := .int .i64 at_) rfl
                        have ly := lt_of_cell y
                        all_goals
                          try dsimp only [WF, WT] at *
                          clear h4 h5 hg
                          unfold OpY
                          go_simp
                          first | exact ⟨rfl, hG.out⟩ | exact ⟨Or.inr rfl, hG.out⟩ | exact ⟨Or.inl rfl, hG.out⟩
                      · refine ⟨(fun g b h => by
                            obtain ⟨rfl, rfl⟩ := Prod.mk.inj (Option.some.inj h)
                            exact ⟨false, rfl, fun h => by first | rfl | exact absurd rfl h⟩), fun w' hG hg ρ h1 h2 h3 h4 h5 => ?_⟩
                        have hG := hid hG
                        have f13 : ρ (.tmp 13) = .pointer (some ⟨wr.heap.size, 0, none⟩) := h5 13 (by kernel_rfl)
                        all_goals
                          try dsimp only [WF, WT] at *
                          clear h4 h5 hg
                          unfold OpY
                          go_simp
                          first | exact ⟨rfl, hG.out⟩ | exact ⟨Or.inr rfl, hG.out⟩ | exact ⟨Or.inl rfl, hG.out⟩
                      · refine ⟨(fun g b h => by
                            obtain ⟨rfl, rfl⟩ := Prod.mk.inj (Option.some.inj h)
                            exact ⟨false, rfl, fun h => by first | rfl | exact absurd rfl h⟩), fun w' hG hg ρ h1 h2 h3 h4 h5 => ?_⟩
                        have hG := hid hG
                        have f242 : ρ (.tmp 242) = (WF false (.pointer (some ⟨wr.heap.size, 5, none⟩))) := h4 25 242 (by kernel_rfl) (by kernel_rfl)
                        have y := (hE.below hG.out).cell 5 (v := .int .i64 x) rfl
                        have ly := lt_of_cell y
                        all_goals
                          try dsimp only [WF, WT] at *
                          clear h4 h5 hg
                          unfold OpY
                          go_simp
                          first | exact ⟨rfl, hG.out⟩ | exact ⟨Or.inr rfl, hG.out⟩ | exact ⟨Or.inl rfl, hG.out⟩
                      · refine ⟨(fun g b h => by
                            obtain ⟨rfl, rfl⟩ := Prod.mk.inj (Option.some.inj h)
                            exact ⟨false, rfl, fun h => by first | rfl | exact absurd rfl h⟩), fun w' hG hg ρ h1 h2 h3 h4 h5 => ?_⟩
                        have hG := hid hG
                        have f241 : ρ (.tmp 241) = (WF false (.int .i64 at_)) := h4 24 241 (by kernel_rfl) (by kernel_rfl)
                        have f243 : ρ (.tmp 243) = (WF false (.int .i64 x)) := h4 26 243 (by kernel_rfl) (by kernel_rfl)
                        all_goals
                          try dsimp only [WF, WT] at *
                          clear h4 h5 hg
                          unfold OpY
                          go_simp
                          first | exact ⟨rfl, hG.out⟩ | exact ⟨Or.inr rfl, hG.out⟩ | exact ⟨Or.inl rfl, hG.out⟩
                      · refine ⟨(fun g b h => by
                            obtain ⟨rfl, rfl⟩ := Prod.mk.inj (Option.some.inj h)
                            exact ⟨false, rfl, fun h => by first | rfl | exact absurd rfl h⟩), fun w' hG hg ρ h1 h2 h3 h4 h5 => ?_⟩
                        have hG := hid hG
                        have f239 : ρ (.tmp 239) = (WF false (.agg #[.int .i64 at_, .int .i64 x])) := h4 22 239 (by kernel_rfl) (by kernel_rfl)
                        have f244 : ρ (.tmp 244) = (WF false (.agg #[.int .i64 at_, .int .i64 x])) := h4 27 244 (by kernel_rfl) (by kernel_rfl)
                        all_goals
                          try dsimp only [WF, WT] at *
                          clear h4 h5 hg
                          unfold OpY
                          go_simp
                          first | exact ⟨rfl, hG.out⟩ | exact ⟨Or.inr rfl, hG.out⟩ | exact ⟨Or.inl rfl, hG.out⟩
                      · refine ⟨(fun g b h => by cases h), fun w' hG hg ρ h1 h2 h3 h4 h5 => ?_⟩
                        have hG := hid hG
                        have f228 : ρ (.tmp 228) = (.bool false) := h4 11 228 (by kernel_rfl) (by kernel_rfl)
                        have f245 : ρ (.tmp 245) = (WF false (.bool false)) := h4 28 245 (by kernel_rfl) (by kernel_rfl)
                        all_goals
                          try dsimp only [WF, WT] at *
                          clear h4 h5 hg
                          unfold OpY
                          go_simp
                          first | exact ⟨rfl, hG.out⟩ | exact ⟨Or.inr rfl, hG.out⟩ | exact ⟨Or.inl rfl, hG.out⟩
                    case hdone =>
                      intro w6 hG
                      have s0 := later hG s0
                      have hc0 := later hG hc0
                      have HG := hid hG
                      have HBK := hid ((HBW.out.below HBL2.out).below hG)
                      have HBO := hid ((HBR.out.below HBL2.out).below hG)
                      have zz := HBK.out.free K
                      have l1 := lt_of_cell s0
                      have l2 := lt_of_cell hc0
                      clear hG p1 p2 hE hA
                      go_wp2_with fail
                      go_roundw
                      case rel =>
                        refine ⟨k + 1, B, HLT.out, rfl, rfl, hid ?_, hid ?_, hid ?_, hid ?_⟩
                        · rw [HCB.out, HBN.out]; (first | rfl | (rw [if_neg KN1.out]; rfl))
                        · rw [rowN_same (HCO.out false (by show (8 : Int) ≠ 3; decide))]; exact HBO.out.set_other ⟨w4.heap.size + 1, K, none⟩ (.int .i64 ((cc : Int) + 1)) (by simp)
                        · rw [← rowN_set (HSET.out).1 (HSET.out).2, HCC.out]; exact HBK.out.set K (.int .i64 ((cc : Int) + 1))
                        · exact ((HBL.out.trans (HBL2.out.mono HBL.out.size)).trans (HG.out.mono (Nat.le_trans HBL.out.size HBL2.out.size))).setCell (p := ⟨w4.heap.size + 1, K, none⟩) (by simp) (.int .i64 ((cc : Int) + 1))
                      case measure => exact (by have := HLT.out; dsimp only [intOf]; omega)
                · have KN8 := hid k8
                  have k8b : (kind == 8) = false := beq_eq_false_iff_ne.2 k8
                  clear k8
                  by_cases k7 : kind = 7
                  · subst k7
                    obtain ⟨r1, r2⟩ := E10.out rfl
                    subst r1
                    have r2b : (wv != v) = false := by rw [r2]; simp
                    clear r2
                    go_wp2_with fail
                    go_roundw
                    case rel =>
                      refine ⟨k + 1, B, HLT.out, rfl, rfl, hid ?_, hid ?_, hid ?_, hid ?_⟩
                      · rw [HCB.out, HBN.out]; (first | rfl | (rw [if_neg KN1.out]; rfl))
                      · rw [rowN_same (HCO.out false (by show (7 : Int) ≠ 3; decide))]; exact HBR.out.below HBL2.out
                      · rw [rowN_same (HCO.out true (by show (7 : Int) ≠ 8; decide))]; exact HBW.out.below HBL2.out
                      · exact HBL.out.trans (HBL2.out.mono HBL.out.size)
                    case measure => exact (by have := HLT.out; dsimp only [intOf]; omega)
                  · have k7b : (kind == 7) = false := beq_eq_false_iff_ne.2 k7
                    clear k7
                    go_wp2_with fail
                    go_roundw
                    case rel =>
                      refine ⟨k + 1, B, HLT.out, rfl, rfl, hid ?_, hid ?_, hid ?_, hid ?_⟩
                      · rw [HCB.out, HBN.out]; (first | rfl | (rw [if_neg KN1.out]; rfl))
                      · rw [rowN_same (HCO.out false (by exact KN3.out))]; exact HBR.out.below HBL2.out
                      · rw [rowN_same (HCO.out true (by exact KN8.out))]; exact HBW.out.below HBL2.out
                      · exact HBL.out.trans (HBL2.out.mono HBL.out.size)
                    case measure => exact (by have := HLT.out; dsimp only [intOf]; omega)
    · obtain rfl : k = l.length := by omega
      have j1 : decide ((l.length : Int) < (l.length : Int)) = false := by rw [decide_eq_false_iff_not]; omega
      have j4 : decide (l.length < l.length) = false := by rw [decide_eq_false_iff_not]; omega
      have hBL : B = L.length := by rw [HBN.out]; unfold begN; rw [List.take_length, HL.out]
      clear HBN hlt hk HKL
      subst hBL
      go_wp2_with fail
      go_loopw [15] (fun i wr => ∃ q : Nat, q ≤ L.length ∧ i = .int .i64 (q : Int) ∧ Hid (Blk wr w4.heap.size (rowN false l l.length L.length) 3) ∧ Hid (Blk wr (w4.heap.size + 1) (rowN true l l.length L.length) 3) ∧ Hid (Below w4.heap.size w4 wr)) (fun i _ => L.length - (intOf i).toNat)
      case atStart => exact ⟨0, Nat.zero_le _, rfl, HBR, HBW, HBL⟩
      case round =>
        clear HBR HBW HBL j1 j4
        obtain ⟨q, hq, rfl, HBR, HBW, HBL⟩ := hrel
        by_cases hlt : q < L.length
        · have HLT := hid hlt
          have j1 : decide ((q : Int) < (L.length : Int)) = true := by rw [decide_eq_true_iff]; omega
          have j2 : (0 : Int) ≤ (q : Int) := by omega
          have j3 : IntKind.i64.wrap ((q : Int) + 1) = (q : Int) + 1 := IntWalk.i64_in _ (by have := HLL.out; omega)
          have j4 : decide (q < L.length) = true := by rw [decide_eq_true_iff]; omega
          have j5 : (q : Int) < (L.length : Int) := by omega
          obtain ⟨g, c, H, hsl, hgl, hcell, hown⟩ := HAT.out.cells (by omega)
          cases hsl
          have hbx := ext_trans HB23.out (ext_trans HB34.out HBL.out)
          have hcw : ∀ (j : Nat) (u : Value), j < 9 → (attL (L.getD q Att.zero) (H q false) (H q true))[j]? = some u → wr.cell? ⟨g, q * 9 + j, none⟩ = some u := fun j u hj hu => later hbx (hcell q j u hlt hj hu)
          have hownR := hown q false hlt
          have hownW := hown q true hlt
          have hok := HA.out q hlt
          have hcr := HBR.out.cell q (rowN_get false l l.length L.length q hlt)
          have hcx := HBW.out.cell q (rowN_get true l l.length L.length q hlt)
          have ecr : cntR false l l.length q = (L.getD q Att.zero).reads.length := by unfold cntR; rw [List.take_length, HL.out]
          have ecx : cntR true l l.length q = (L.getD q Att.zero).writes.length := by unfold cntR; rw [List.take_length, HL.out]
          rw [ecr] at hcr
          rw [ecx] at hcx
          obtain ⟨A, hA⟩ : ∃ A, L.getD q Att.zero = A := ⟨_, rfl⟩
          rw [hA] at hcr hcx hok hownR hownW hcw
          obtain ⟨th2, tx2, fr, tw, rv, wv, com, rds, wrs⟩ := A
          have hcr : wr.cell? ⟨w4.heap.size, q, none⟩ = some (.int .i64 (rds.length : Int)) := hcr
          have hcx : wr.cell? ⟨w4.heap.size + 1, q, none⟩ = some (.int .i64 (wrs.length : Int)) := hcx
          have hownR : w2.ownsRow _ 36 2 (H q false) rds.length (pairsL rds) := hownR
          have hownW : w2.ownsRow _ 36 2 (H q true) wrs.length (pairsL wrs) := hownW
          have hnc : com = false → wv = 0 := hok.nc
          have hnw : wv = 0 → wrs = [] := hok.nw
          obtain ⟨rn, hrn⟩ : ∃ rn, rds.length = rn := ⟨_, rfl⟩
          obtain ⟨wn, hwn⟩ : ∃ wn, wrs.length = wn := ⟨_, rfl⟩
          rw [hrn] at hownR hcr
          rw [hwn] at hownW hcx
          obtain ⟨rx, rc, hr⟩ := own_is hownR
          obtain ⟨wx, wc, hw⟩ := own_is hownW
          rw [hr, hw] at hcw
          have a5 := hcw 5 (.int .i64 wv) (by decide) rfl
          have a6 := hcw 6 (.bool com) (by decide) rfl
          have a7 := hcw 7 (.slice rx rn rc) (by decide) rfl
          have a8 := hcw 8 (.slice wx wn wc) (by decide) rfl
          have hgw := lt_of_cell a5
          have l1 := lt_of_cell hcr
          have l2 := lt_of_cell hcx
          have hw0 : com = false → wn = 0 := fun h => by rw [← hwn, hnw (hnc h)]; rfl
          clear hok hcw hownR hownW hcell hgl hown hrn hr hw hbx ecr ecx hA hnw hwn hq hlt
          cases com
          · have w1 : (wv != 0) = false := by rw [hnc rfl]; rfl
            have w2 : decide (0 < wn) = false := by rw [hw0 rfl]; rfl
            have w3 : decide ((0 : Int) < (wn : Int)) = false := by rw [hw0 rfl]; rfl
            clear hnc hw0
            go_wp2_with fail
            go_quiet (fail)
            go_wp2_with fail
            go_roundw
            case rel => exact ⟨q + 1, HLT.out, rfl, hid (HBR.out.below (ext_drewN (ext_refl _) _)), hid (HBW.out.below (ext_drewN (ext_refl _) _)), hid (HBL.out.trans ((ext_drewN (ext_refl _) _).mono HBL.out.size))⟩
            case measure => exact (by have := HLT.out; dsimp only [intOf]; omega)
          · clear hnc hw0
            go_wp2_with fail
            go_quiet (fail)
            go_wp2_with fail
            go_roundw
            case rel => exact ⟨q + 1, HLT.out, rfl, hid (HBR.out.below (ext_drewN (ext_refl _) _)), hid (HBW.out.below (ext_drewN (ext_refl _) _)), hid (HBL.out.trans ((ext_drewN (ext_refl _) _).mono HBL.out.size))⟩
            case measure => exact (by have := HLT.out; dsimp only [intOf]; omega)
        · obtain rfl : q = L.length := by omega
          have j1 : decide ((L.length : Int) < (L.length : Int)) = false := by rw [decide_eq_false_iff_not]; omega
          have j4 : decide (L.length < L.length) = false := by rw [decide_eq_false_iff_not]; omega
          go_wp2_with fail
          go_ret
          exact ⟨rfl, ext_trans HB4.out HBL.out⟩
theorem historyEach_any (T V S : Int) (a : Option Addr) (l : List Ev) (cap : Nat) (w : World) (hE : EvsAt w a l) (hK : KindsAt w) (hT : TabOk w) :
    Calls Tryd.prog 6 #[trA T V S a l.length cap] w fun e w' => e = .returned (.bool true) ∧ Below w.heap.size w w' := by
  by_cases hl : l.length ≤ 2000
  · by_cases hc : (checkT T V S l).2 = 0
    · exact each_loop T V S a l cap w hl hc hE hK hT
    · exact each_no T V S a l cap w hl hc hE hK hT
  · exact each_great T V S a l.length cap w (by omega) hK hT

end Go.Proofs.YtjckgagkkknmnaaDoor
