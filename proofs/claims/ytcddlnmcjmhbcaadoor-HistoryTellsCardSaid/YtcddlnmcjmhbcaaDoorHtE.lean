/-
  Joined texts: HiO HiU.
-/
import Derived.Test.YtcddlnmcjmhbcaaDoorHtC
import Derived.Test.YtcddlnmcjmhbcaaDoorHtB
import Derived.Sort.CutIn
import Derived.Test.YtcddlnmcjmhbcaaDoorRgC
/-
  Walk: history.Of.
-/
namespace Go.Proofs.YtcddlnmcjmhbcaaDoor
set_option linter.unusedVariables false
set_option linter.unusedSimpArgs false
set_option linter.unusedVariables false
open Go Go.RowKit Go.Shelf
attribute [local go_sem] Oper.semAt_some
theorem infoAtt : (Tryd.prog.info? 58).map (fun i => (i.zero, i.size, i.bytes)) = some (some (.agg #[.int .i64 0, .int .i64 0, .int .i64 0, .int .i64 0, .int .i64 0, .int .i64 0, .bool false, .slice none 0 0, .slice none 0 0]), 9, 104) := by kernel_rfl
theorem infoPair : (Tryd.prog.info? 61).map (fun i => (i.zero, i.size, i.bytes)) = some (some (.agg #[.int .i64 0, .int .i64 0]), 2, 16) := by kernel_rfl
/-- The attempts in memory. -/
def AttsAt (W : World) (n₀ : Nat) (v : Value) (L : List Att) : Prop := ∃ H, W.ownsRow n₀ 58 9 v L.length (attsL L H) ∧ (∀ k b, k < L.length → W.ownsRow n₀ 61 2 (H k b) (plB (L.getD k Att.zero) b).length (pairsL (plB (L.getD k Att.zero) b)))
/-- What holds while Of goes over the events: B the block of the attempts' slice. -/
def OfI (T V S : Int) (a : Option Addr) (l : List Ev) (cap : Nat) (w : World) (B : Nat) (h : HS) (W : World) : Prop :=
  (∃ vo vw H, Blk W B #[vo] 29 ∧ Blk W (B + 1) #[vw] 32 ∧ HistAt w.heap.size W vo vw h H) ∧ Blk W w.heap.size #[.int .i64 T, .int .i64 V, .int .i64 S, .slice a l.length cap] 24 ∧ Below w.heap.size w W
/-- What Of comes to. -/
def OfP (T V S : Int) (l : List Ev) (w : World) (e : Ending) (w' : World) : Prop :=
  ∃ v, e = .returned (.tuple #[v, .int .i64 (checkT T V S l).2]) ∧ Below w.heap.size w w' ∧ AttsAt w' w.heap.size v (if (checkT T V S l).2 = 0 then (histT l).out else [])
set_option maxRecDepth 100000 in
set_option maxHeartbeats 4000000 in
theorem of_no (T V S : Int) (a : Option Addr) (l : List Ev) (cap : Nat) (w : World) (hE : EvsAt w a l) (hK : KindsAt w) (hT : TabOk w) (hc : (checkT T V S l).2 ≠ 0) :
    Calls Tryd.prog 8 #[trA T V S a l.length cap] w (OfP T V S l w) := by
  obtain ⟨W1, hW1⟩ : ∃ W1, W1 = w.alloc (.cells #[.int .i64 T, .int .i64 V, .int .i64 S, .slice a l.length cap] 24) := ⟨_, rfl⟩
  have hB1 : Below w.heap.size w W1 := by rw [hW1]; exact ext_alloc (ext_refl _) _
  have HC := hid (check_all T V S a l cap W1 (hE.below hB1) (hK.below hB1) (hT.below hB1))
  have HP : ∀ W', Below W1.heap.size W1 W' → OfP T V S l w (.returned (.tuple #[.slice none 0 0, .int .i64 (checkT T V S l).2])) W' := fun W' hb => ⟨_, rfl, ext_trans hB1 hb, by rw [if_neg hc]; exact ⟨fun _ _ => .slice none 0 0, World.ownsRow_nil _ _ _ _, fun k b hk => absurd hk (Nat.not_lt_zero _)⟩⟩
  have HP := hid HP
  obtain ⟨Q, hQ⟩ : ∃ Q, Q = OfP T V S l w := ⟨_, rfl⟩
  rw [← hQ] at HP ⊢
  obtain ⟨p, q, hpq⟩ : ∃ p q, checkT T V S l = (p, q) := ⟨_, _, rfl⟩
  rw [hpq] at HC HP hc
  dsimp only at HC HP hc
  have g1 : (q == 0) = false := beq_eq_false_iff_ne.2 hc
  have g2 : (q != 0) = true := bne_iff_ne.2 hc
  dsimp only [trA] at HC ⊢
  have HW1 := hid hW1
  clear hE hK hT hc hQ hW1 hB1 hpq
  go_enter Tryd.func8, Tryd.ntmps8
  go_wp2_with fail
  rw [← HW1.out]
  refine HC.out.mono ?_
  rintro e' w2 ⟨rfl, hb2⟩
  go_wp2_with fail
  exact HP.out _ hb2
theorem turn_pairs (a : Att) (o : Int) (e : Ev) (i : Int) : (turnA a o e i).reads.length ≤ a.reads.length + 1 ∧ (turnA a o e i).writes.length ≤ a.writes.length + 1 := by
  unfold turnA
  split
  · simp
  · split
    · simp
    · split
      · simp
      · split
        · simp
        · split
          · simp
          · split <;> simp
theorem hist_pairs : ∀ (l : List Ev) (h : HS) (i : Int) (n : Nat), (∀ q ∈ h.out, q.reads.length ≤ n ∧ q.writes.length ≤ n) → ∀ q ∈ (histF h i l).out, q.reads.length ≤ n + l.length ∧ q.writes.length ≤ n + l.length
  | [], h, i, n, hn, q, hq => hn q hq
  | e :: l, h, i, n, hn, q, hq => by
    have h1 : ∀ q ∈ (stepH h i e).out, q.reads.length ≤ n + 1 ∧ q.writes.length ≤ n + 1 := by
      intro q hq
      unfold stepH at hq
      split at hq
      · rcases List.mem_append.1 hq with hq | hq
        · have := hn q hq; omega
        · rw [List.mem_singleton] at hq; subst hq; exact ⟨Nat.zero_le _, Nat.zero_le _⟩
      · split at hq
        · have := hn q hq; omega
        · rcases List.mem_or_eq_of_mem_set hq with hq | rfl
          · have := hn q hq; omega
          · have h2 := turn_pairs (h.out.getD (h.last e.th) Att.zero) (h.owned.getD (h.last e.th) 0) e i
            have h3 : (h.out.getD (h.last e.th) Att.zero).reads.length ≤ n ∧ (h.out.getD (h.last e.th) Att.zero).writes.length ≤ n := by
              rw [List.getD_eq_getElem?_getD]
              cases hg : h.out[h.last e.th]? with
              | none => exact ⟨Nat.zero_le _, Nat.zero_le _⟩
              | some a => exact hn a (List.mem_of_getElem? hg)
            omega
    have := hist_pairs l (stepH h i e) (i + 1) (n + 1) h1 q hq
    simp only [List.length_cons]
    omega
set_option maxRecDepth 100000 in
set_option maxHeartbeats 4000000 in
theorem of_ok (T V S : Int) (a : Option Addr) (l : List Ev) (cap : Nat) (w : World) (hE : EvsAt w a l) (hK : KindsAt w) (hT : TabOk w) (hc : (checkT T V S l).2 = 0) :
    Calls Tryd.prog 8 #[trA T V S a l.length cap] w (OfP T V S l w) := by
  obtain ⟨W1, hW1⟩ : ∃ W1, W1 = w.alloc (.cells #[.int .i64 T, .int .i64 V, .int .i64 S, .slice a l.length cap] 24) := ⟨_, rfl⟩
  have hB1 : Below w.heap.size w W1 := by rw [hW1]; exact ext_alloc (ext_refl _) _
  have hbx : Blk W1 w.heap.size #[.int .i64 T, .int .i64 V, .int .i64 S, .slice a l.length cap] 24 := by rw [hW1]; exact Blk.new _ _ _
  have HC := hid (check_all T V S a l cap W1 (hE.below hB1) (hK.below hB1) (hT.below hB1))
  have HP : ∀ v W', Below w.heap.size w W' → AttsAt W' w.heap.size v (histT l).out → OfP T V S l w (.returned (.tuple #[v, .int .i64 0])) W' := fun v W' hb ho => ⟨v, by rw [hc], hb, by rw [if_pos hc]; exact ho⟩
  have HP := hid HP
  obtain ⟨Q, hQ⟩ : ∃ Q, Q = OfP T V S l w := ⟨_, rfl⟩
  rw [← hQ] at HP ⊢
  obtain ⟨hsz0, hlen, sF, hHist⟩ := checkT_fine hc
  obtain ⟨p, q, hpq⟩ : ∃ p q, checkT T V S l = (p, q) := ⟨_, _, rfl⟩
  rw [hpq] at HC hc
  dsimp only at HC hc
  subst hc
  dsimp only [trA] at HC ⊢
  have HW1 := hid hW1
  have HB1 := hid hB1
  have HE := hid hE
  have HL := hid hlen
  have HX := hid hbx
  have HH := hid hHist
  have HEV := hid (events_any T V S a l.length cap)
  dsimp only [trA] at HEV
  clear hE hK hT hQ hW1 hB1 hpq hlen hbx hHist hsz0
  refine (callsIn_wide (n := 3)).1 ?_
  refine callsIn_of_wp_marks Tryd.func8 rfl trivial ?_ rfl
  simp only [Tryd.ntmps8, List.size_toArray, List.length_cons, List.length_nil, Nat.reduceAdd, Nat.reduceSub, Array.replicate_succ, Array.replicate_zero, List.push_toArray, List.append_toArray, List.nil_append, List.cons_append]
  gi_wp2_with (first
    | (refine ⟨trivial, ?_⟩; gi_at_call 6; rw [← HW1.out]; refine (callsIn_wide.2 HC.out).mono ?_; rintro e' w2 ⟨rfl, hb2⟩; have hx2 := ((HX.out.below hb2).alloc (.cells #[.slice none 0 0] 29)).alloc (.cells #[.slice none 0 0] 32); have x0 := hx2.cell 0 (v := .int .i64 T) rfl; have x1 := hx2.cell 1 (v := .int .i64 V) rfl; have x2 := hx2.cell 2 (v := .int .i64 S) rfl; have x3 := hx2.cell 3 (v := .slice a l.length cap) rfl)
    | (refine ⟨trivial, ?_⟩; gi_at_call 25; refine (callsIn_wide.2 (HEV.out _)).mono ?_; rintro e' w3 ⟨rfl, rfl⟩))
  obtain ⟨W2, hW2⟩ : ∃ W2, W2 = ((w2.alloc (.cells #[.slice none 0 0] 29)).alloc (.cells #[.slice none 0 0] 32)).alloc (.cells #[.int .i64 T, .int .i64 V, .int .i64 S, .slice a l.length cap] 24) := ⟨_, rfl⟩
  have hB2 : Below w2.heap.size w2 W2 := by rw [hW2]; exact ext_alloc (ext_alloc (ext_alloc (ext_refl _) _) _) _
  have hBw2 : Below w.heap.size w w2 := ext_trans HB1.out hb2
  have hBw : Below w.heap.size w W2 := ext_trans hBw2 hB2
  have hsz : W2.heap.size = w2.heap.size + 3 := by rw [hW2, World.size_alloc, World.size_alloc, World.size_alloc]
  have bx6 : Blk W2 w2.heap.size #[.slice none 0 0] 29 := by rw [hW2]; exact ((Blk.new _ _ _).alloc _).alloc _
  have bx7 : Blk W2 (w2.heap.size + 1) #[.slice none 0 0] 32 := by rw [hW2]; exact (Blk.new' _ _ _ (World.size_alloc _ _).symm).alloc _
  have bxt : Blk W2 (w2.heap.size + 1 + 1) #[.int .i64 T, .int .i64 V, .int .i64 S, .slice a l.length cap] 24 := by rw [hW2]; exact Blk.new' _ _ _ (by rw [World.size_alloc, World.size_alloc])
  have bx1 : Blk W2 w.heap.size #[.int .i64 T, .int .i64 V, .int .i64 S, .slice a l.length cap] 24 := by rw [hW2]; exact hx2.alloc _
  have hEW := HE.out.below hBw
  have hEb := evs_lt HE.out
  have hle2 : w.heap.size < w2.heap.size := Nat.lt_of_lt_of_le HX.out.lt hb2.size
  rw [← hW2]
  have HR := hid (events_runs 2 w.heap.size (by omega) (w2.heap.size + 1 + 1) T V S a l cap HL.out W2 hBw.size (bxt.cell 3 rfl) hEW hEb)
  have HBW := hid hBw
  have HSZ := hid (And.intro hsz hle2)
  have HEB := hid hEb
  obtain ⟨i3, hi3, hy0, hy1, hy2⟩ := info_parts infoInt
  obtain ⟨i9, hi9, hz0, hz1, hz2⟩ := info_parts infoAtt
  obtain ⟨iP, hiP, hp0, hp1, hp2⟩ := info_parts infoPair
  clear hEW hEb hB2 hBw2 hBw x0 x1 x2 x3 hx2 hW2 hle2 hsz HC HEV hb2
  apply wpIn_range_runs (encs := fun k => #[.int .i64 (k : Int), .int .i64 (ofI l k)]) (Kp := KeepBW w.heap.size) (N := l.length) (w0 := W2) rfl (by omega) (gf := 64) (lb := #[.pointer (some ⟨w2.heap.size + 1 + 1, 0, none⟩)]) rfl trivial (enters_of Tryd.func64 (by kernel_rfl) rfl) HR.out keepBW_t (keepBW_b HBW.out.size) (Below.refl _ _) (fun _ => rfl)
    (fun k W => OfI T V S a l cap w w2.heap.size (histT (l.take k)) W)
    (by
      rintro k A B row ⟨⟨vo, vw, H, h1, h2, h3⟩, h4, h5⟩ hg hr
      have hr' : ∀ r, row = some r → ∃ o : Obj, A.heap[r]? = some o ∧ o.isCells = false := fun r e => (hr r e).2
      have kb : ∀ {b : Nat} {cs : Array Value} {t : TypeId}, Blk A b cs t → Blk B b cs t := by
        intro b cs t hb
        refine hb.grown hg (fun e => ?_)
        obtain ⟨o, ho, hc⟩ := hr' b e.symm
        unfold Blk at hb
        rw [hb] at ho; cases ho; cases hc
      exact ⟨⟨vo, vw, H, kb h1, kb h2, h3.noCells hg hr'⟩, kb h4, (ownFrom_below (β := Unit) (Nat.le_refl _) HBW.out.size) () A B row h5 hg hr⟩)
    ⟨⟨_, _, _, bx6, bx7, HistAt.new _ _⟩, bx1, HBW.out⟩
  case hassign =>
    intro lp k W K hK
    gi_wp2
    exact hK
  case hbody =>
    rintro lp k W ⟨⟨vo, vw, H, h6, h7, hh⟩, h1, hB⟩ hk
    obtain ⟨b, o, rfl, hcell⟩ := HE.out.2 (by intro h; rw [h] at hk; simp at hk)
    have hbn := HEB.out b o rfl (by intro h; rw [h] at hk; simp at hk)
    obtain ⟨r, r', hr, hs, hr'⟩ := HH.out.step hk
    have hI := hr.hi
    rw [show ((l.take k).length : Int) = k by rw [List.length_take, Nat.min_eq_left (Nat.le_of_lt hk)]] at hI
    have hmid := hi_mid hr.wf hI hs
    have hmo := hi_mo hr.wf hI hs
    have hkd : 1 ≤ l[k].kind ∧ l[k].kind ≤ 13 := (stepS_inv hr.wf hs).choose_spec.2.2.2.2.1
    have hlenR : ∀ q ∈ (histT (l.take k)).out, q.reads.length ≤ k ∧ q.writes.length ≤ k := by
      have := hist_pairs (l.take k) newH 0 0 (fun q hq => absurd hq (List.not_mem_nil))
      rw [List.length_take, Nat.min_eq_left (Nat.le_of_lt hk), Nat.zero_add] at this
      exact this
    have hwf := hr.wf
    have hof := ofI_eq hk
    have hst := histT_step hk
    have hole : (histT (l.take k)).out.length ≤ k := by
      have := hist_len (l.take k) newH 0
      rw [List.length_take, Nat.min_eq_left (Nat.le_of_lt hk)] at this
      show (histF newH 0 (l.take k)).out.length ≤ k
      have h0 : newH.out.length = 0 := rfl
      omega
    rw [hst]
    obtain ⟨h, hh0⟩ : ∃ h, h = histT (l.take k) := ⟨_, rfl⟩
    rw [← hh0] at hh hof hst hole hmid hmo hlenR ⊢
    rcases hek : l[k] with ⟨kind, th, tx, at_, v, x, why⟩
    have e0 := (hB.cell (p := ⟨b, o + k * 7 + 0, none⟩) hbn).trans (hcell k hk 0 (.int .u8 kind) (by rw [hek]; rfl))
    have e1 := (hB.cell (p := ⟨b, o + k * 7 + 1, none⟩) hbn).trans (hcell k hk 1 (.int .i64 th) (by rw [hek]; rfl))
    have e2 := (hB.cell (p := ⟨b, o + k * 7 + 2, none⟩) hbn).trans (hcell k hk 2 (.int .i64 tx) (by rw [hek]; rfl))
    have e3 := (hB.cell (p := ⟨b, o + k * 7 + 3, none⟩) hbn).trans (hcell k hk 3 (.int .i64 at_) (by rw [hek]; rfl))
    have e4 := (hB.cell (p := ⟨b, o + k * 7 + 4, none⟩) hbn).trans (hcell k hk 4 (.int .i64 v) (by rw [hek]; rfl))
    have e5 := (hB.cell (p := ⟨b, o + k * 7 + 5, none⟩) hbn).trans (hcell k hk 5 (.int .i64 x) (by rw [hek]; rfl))
    have e6 := (hB.cell (p := ⟨b, o + k * 7 + 6, none⟩) hbn).trans (hcell k hk 6 (.int .u8 why) (by rw [hek]; rfl))
    rw [Nat.add_zero] at e0
    have x3 := h1.cell 3 (v := .slice (some ⟨b, o, none⟩) l.length cap) rfl
    rw [hek] at hof hmid hmo hst hkd
    dsimp only at hmid hmo hkd
    have hkL : k < 1048576 := by have := HL.out; omega
    have c6 := h6.cell 0 (v := vo) rfl
    have c7 := h7.cell 0 (v := vw) rfl
    have z6 := h6.free 0
    have l6 := lt_of_cell c6
    have l7 := lt_of_cell c7
    have l1 := lt_of_cell x3
    have z7 := h7.free 0
    have hle := Nat.le_of_lt HSZ.out.2
    have hsW := hB.size
    have HH6 := hid h6
    have HH7 := hid h7
    have HH1 := hid h1
    have HHB := hid hB
    have HHH := hid hh
    have j2 : (0 : Int) ≤ (k : Int) := by omega
    have j4 : decide (k < l.length) = true := by rw [decide_eq_true_iff]; omega
    have HHK := hid hk
    clear hcell hek hst h6 h7 h1 hB hh hr hr' hs hI hwf hh0
    by_cases k1 : kind = 1
    · subst k1
      have hof1 : ofI l k = (h.out.length : Nat) := by rw [hof]; unfold ofH; rw [if_pos rfl]
      rw [hof1]
      obtain ⟨E, hE0⟩ : ∃ E, E = Obj.cells #[.int .u8 1, .int .i64 th, .int .i64 tx, .int .i64 at_, .int .i64 v, .int .i64 x, .int .u8 why] 49 := ⟨_, rfl⟩
      obtain ⟨X, hX0⟩ : ∃ X, X = Obj.cells (attL ⟨th, tx, (k : Int), -1, v, 0, false, [], []⟩ (.slice none 0 0) (.slice none 0 0)).toArray 58 := ⟨_, rfl⟩
      have hcf : ∀ j u, (attL ⟨th, tx, (k : Int), -1, v, 0, false, [], []⟩ (.slice none 0 0) (.slice none 0 0))[j]? = some u → ((W.alloc E).alloc X).cell? ((⟨W.heap.size + 1, 0, none⟩ : Addr).add j) = some u := by
        intro j u hu
        have := cells_fresh (W.alloc E) (attL ⟨th, tx, (k : Int), -1, v, 0, false, [], []⟩ (.slice none 0 0) (.slice none 0 0)).toArray 58 j u hu
        rw [World.size_alloc, ← hX0] at this
        exact this
      have ho2 := ((HHH.out.out).alloc E).alloc X
      have hw2 := ((HHH.out.own).alloc E).alloc X
      have q6 := (HH6.out.alloc E).alloc X
      have q7 := (HH7.out.alloc E).alloc X
      have q1 := (HH1.out.alloc E).alloc X
      have h63 : h.out.length + 1 ≤ maxLen := by unfold maxLen; omega
      have hby : (h.out.length + 1) * 104 ≤ 140737488355328 := by omega
      have hby8 : (h.out.length + 1) * 8 ≤ 140737488355328 := by omega
      have hbs : w.heap.size ≤ ((W.alloc E).alloc X).heap.size := by rw [World.size_alloc, World.size_alloc]; omega
      have hko := ((KO.refl w.heap.size W).alloc hsW E).alloc hsW X
      rw [hE0, hX0] at hcf ho2 hw2 q6 q7 q1 hbs hko
      gi_wp2_with (first
        | (gi_at_builtin; refine wpListIn_append_own _ rfl _ _ 29 rfl w.heap.size 58 i9 _ 9 104 Tryd.underlying29 hi9 hz0 hz1 hz2 rfl (by decide) _ _ _ rfl ho2 ⟨W.heap.size + 1, 0, none⟩ 1 1 _ rfl rfl hcf (by simp [attL, Value.oneCell']) h63 hby hbs ?_; intro vo' w4 ho4 hg4 _; obtain ⟨go, co, rfl⟩ := ownsRow_succ ho4; have q6' := q6.grow ho2 hg4 (by decide); have q7' := q7.grow ho2 hg4 (by decide); have q1' := q1.grow ho2 hg4 (by decide); have hw4 := row_grow hw2 ho2 hg4 (by decide); have hko4 := hko.grow hsW ho2 hg4; clear q6 q7 q1 hko; have c6' := q6'.cell 0 (v := vo) rfl; have c7' := q7'.cell 0 (v := vw) rfl; have z6' := q6'.free 0; have z7' := q7'.free 0; have hsz4 : (w4.setCell ⟨w2.heap.size, 0, none⟩ (.slice (some ⟨go, 0, none⟩) (h.out.length + 1) co)).heap.size = w4.heap.size := (by simp [World.setCell]); have hcf2 := cells_fresh (w4.setCell ⟨w2.heap.size, 0, none⟩ (.slice (some ⟨go, 0, none⟩) (h.out.length + 1) co)) #[.int .i64 0] 3; rw [hsz4] at hcf2; have hw4' := (row_set hw4 q6' (by decide) 0 (.slice (some ⟨go, 0, none⟩) (h.out.length + 1) co)).alloc (.cells #[.int .i64 0] 3); have hko4' := (hko4.set (b := w2.heap.size) (o := 0) hle (.slice (some ⟨go, 0, none⟩) (h.out.length + 1) co)).alloc hsW (.cells #[.int .i64 0] 3); have hbs4 := Nat.le_trans hsW hko4'.2.size; have HX4 := hid (And.intro ho4 (And.intro hg4 (And.intro q6' (And.intro q7' (And.intro q1' ho2))))); clear ho4 hg4 q6' q7' q1' hw4 hko4 ho2 hcf hw2 hbs)
        | (gi_at_builtin; refine wpListIn_append_own _ rfl _ _ 32 rfl w.heap.size 3 i3 _ 1 8 Tryd.underlying32 hi3 hy0 hy1 hy2 rfl (by decide) _ _ _ rfl hw4' ⟨w4.heap.size, 0, none⟩ 1 1 [.int .i64 0] rfl rfl hcf2 (by simp [Value.oneCell']) h63 hby8 hbs4 ?_; intro vw' w5 hw5 hg5 _; obtain ⟨gw, cw, rfl⟩ := ownsRow_succ hw5; have q7f := (((HX4.out.2.2.2.1).set_other ⟨w2.heap.size, 0, none⟩ (.slice (some ⟨go, 0, none⟩) (h.out.length + 1) co) (by simp)).alloc (.cells #[.int .i64 0] 3)).grow hw4' hg5 (by decide); have c7f := q7f.cell 0 (v := vw) rfl; have z7f := q7f.free 0))
      have hkoF := (hko4'.grow hsW hw4' hg5).set (b := w2.heap.size + 1) (o := 0) (by omega) (.slice (some ⟨gw, 0, none⟩) (h.out.length + 1) cw)
      obtain ⟨ho4, hg4, q6', q7', q1', ho2⟩ := HX4.out
      have t6 := (((q6'.set 0 (.slice (some ⟨go, 0, none⟩) (h.out.length + 1) co)).alloc (.cells #[.int .i64 0] 3)).grow hw4' hg5 (by decide)).set_other ⟨w2.heap.size + 1, 0, none⟩ (.slice (some ⟨gw, 0, none⟩) (h.out.length + 1) cw) (by simp)
      have t7 := q7f.set 0 (.slice (some ⟨gw, 0, none⟩) (h.out.length + 1) cw)
      have t1 := (((q1'.set_other ⟨w2.heap.size, 0, none⟩ (.slice (some ⟨go, 0, none⟩) (h.out.length + 1) co) (by have := HSZ.out; simp; omega)).alloc (.cells #[.int .i64 0] 3)).grow hw4' hg5 (by decide)).set_other ⟨w2.heap.size + 1, 0, none⟩ (.slice (some ⟨gw, 0, none⟩) (h.out.length + 1) cw) (by have := HSZ.out; simp; omega)
      have toF : ∀ {e size : Nat} {v : Value} {n : Nat} {xs : List Value}, 3 ≠ e → 29 ≠ e → 32 ≠ e → w4.ownsRow w.heap.size e size v n xs → (w5.setCell ⟨w2.heap.size + 1, 0, none⟩ (.slice (some ⟨gw, 0, none⟩) (h.out.length + 1) cw)).ownsRow w.heap.size e size v n xs := fun n1 n2 n3 hr => row_set (row_grow ((row_set hr q6' n2 0 _).alloc _) hw4' hg5 (fun e => n1 e.symm)) q7f n3 0 _
      refine ⟨hkoF.1.from _, ⟨hkoF.2, hkoF.1.walks⟩, ⟨.slice (some ⟨go, 0, none⟩) (h.out.length + 1) co, .slice (some ⟨gw, 0, none⟩) (h.out.length + 1) cw, _, t6, t7, HistAt.begun HHH.out rfl (toF (by decide) (by decide) (by decide) ho4) (row_set hw5 q7f (by decide) 0 _) (fun v n xs hr => toF (by decide) (by decide) (by decide) (row_grow ((hr.alloc _).alloc _) ho2 hg4 (by decide)))⟩, t1, HHB.out.trans hkoF.2⟩
    · by_cases k13 : kind = 13
      · subst k13
        have hof1 : ofI l k = -1 := by rw [hof]; rfl
        rw [hof1]
        obtain ⟨E, hE0⟩ : ∃ E, E = Obj.cells #[.int .u8 13, .int .i64 th, .int .i64 tx, .int .i64 at_, .int .i64 v, .int .i64 x, .int .u8 why] 49 := ⟨_, rfl⟩
        have hko := (KO.refl w.heap.size W).alloc hsW E
        have t6 := HH6.out.alloc E
        have t7 := HH7.out.alloc E
        have t1 := HH1.out.alloc E
        have hhF := HHH.out.calm (World.grownBy_alloc W E none)
        rw [hE0] at hko t6 t7 t1 hhF
        have HF := hid (And.intro hko (And.intro t6 (And.intro t7 (And.intro t1 hhF))))
        clear hko t6 t7 t1 hhF hE0
        gi_wp2
        obtain ⟨hko, t6, t7, t1, hhF⟩ := HF.out
        exact ⟨hko.1.from _, ⟨hko.2, hko.1.walks⟩, ⟨_, _, _, t6, t7, hhF⟩, t1, HHB.out.trans hko.2⟩
      · obtain ⟨at0, oo, hk1, hk2, hkth, hkto, hk7⟩ := hmid k1 k13
        obtain ⟨oo', hk2', ho0, ho32⟩ := hmo k1 k13
        rw [hk2] at hk2'
        cases hk2'
        have hof2 : ofI l k = ((h.last th : Nat) : Int) := by rw [hof]; unfold ofH; rw [if_neg k1, if_neg k13]
        have hSM : stepH h (k : Int) ⟨kind, th, tx, at_, v, x, why⟩ = ⟨h.last, h.out.set (h.last th) (turnA at0 oo ⟨kind, th, tx, at_, v, x, why⟩ (k : Int)), h.owned.set (h.last th) (turnO oo ⟨kind, th, tx, at_, v, x, why⟩)⟩ := by
          unfold stepH; rw [if_neg k1, if_neg k13, getD_of_get? hk1, getD_of_get? hk2]
        rw [hSM, hof2]
        obtain ⟨K, hK0⟩ : ∃ K, K = h.last th := ⟨_, rfl⟩
        rw [← hK0] at hk1 hk2 ⊢
        have hKl : K < h.out.length := (List.getElem?_eq_some_iff.1 hk1).1
        have hGet : h.out.getD K Att.zero = at0 := getD_of_get? hk1
        have hKk : K < k := by omega
        obtain ⟨go, co, rfl, hgb, hgl⟩ := own_slice HHH.out.out (by omega)
        obtain ⟨gw, cw, rfl, hwb, hwl⟩ := own_slice HHH.out.own (by omega)
        have hlf := hlenR at0 (List.mem_of_getElem? hk1)
        have hlenfalse : (plB at0 false).length ≤ k := hlf.1
        have hlentrue : (plB at0 true).length ≤ k := hlf.2
        have i1 : (0 : Int) ≤ (K : Int) := by omega
        have i2 : (K : Int) < (h.out.length : Int) := by omega
        have hne : go ≠ gw := by
          intro e
          subst e
          exact (rows_ne HHH.out.out HHH.out.own (by decide)).elim (fun x => by simp [Value.ownBlock] at x) (fun x => x (by simp [Value.ownBlock]))
        have g1 : (kind == 1) = false := beq_eq_false_iff_ne.2 k1
        clear hmid hmo hof hof2 hSM hK0 hkth hkto hk7 hlenR hlf
        gi_upto_if 32 with fail
        obtain ⟨W1, hW1⟩ : ∃ W1, W1 = W.alloc (.cells #[.int .u8 kind, .int .i64 th, .int .i64 tx, .int .i64 at_, .int .i64 v, .int .i64 x, .int .u8 why] 49) := ⟨_, rfl⟩
        rw [← hW1]
        have hko : KO w.heap.size W W1 := by rw [hW1]; exact (KO.refl w.heap.size W).alloc hsW _
        have t6 : Blk W1 w2.heap.size #[.slice (some ⟨go, 0, none⟩) h.out.length co] 29 := by rw [hW1]; exact HH6.out.alloc _
        have t7 : Blk W1 (w2.heap.size + 1) #[.slice (some ⟨gw, 0, none⟩) h.out.length cw] 32 := by rw [hW1]; exact HH7.out.alloc _
        have t1 : Blk W1 w.heap.size #[.int .i64 T, .int .i64 V, .int .i64 S, .slice (some ⟨b, o, none⟩) l.length cap] 24 := by rw [hW1]; exact HH1.out.alloc _
        have hh1 : HistAt w.heap.size W1 (.slice (some ⟨go, 0, none⟩) h.out.length co) (.slice (some ⟨gw, 0, none⟩) h.out.length cw) h H := by rw [hW1]; exact HHH.out.calm (World.grownBy_alloc W _ none)
        have bE : Blk W1 W.heap.size #[.int .u8 kind, .int .i64 th, .int .i64 tx, .int .i64 at_, .int .i64 v, .int .i64 x, .int .u8 why] 49 := by rw [hW1]; exact Blk.new _ _ _
        have hlW : W.heap.size < W1.heap.size := by rw [hW1, World.size_alloc]; omega
        clear hW1 c6 c7 z6 z7 e0 e1 e2 e3 e4 e5 e6 x3 HH6 HH7 HH1
        have c6 := t6.cell 0 (v := .slice (some ⟨go, 0, none⟩) h.out.length co) rfl
        have c7 := t7.cell 0 (v := .slice (some ⟨gw, 0, none⟩) h.out.length cw) rfl
        have z6 := t6.free 0
        have z7 := t7.free 0
        have f0 := bE.cell 0 (v := .int .u8 kind) rfl
        have f3 := bE.cell 3 (v := .int .i64 at_) rfl
        have f4 := bE.cell 4 (v := .int .i64 v) rfl
        have f5 := bE.cell 5 (v := .int .i64 x) rfl
        have dO := (hh1.own.cellAt K (by omega))
        rw [List.getElem?_map, hk2, Option.map_some] at dO
        have zW := hh1.own.frozenAt K
        have z3 := hh1.out.frozenAt (K * 9 + 3)
        have z5 := hh1.out.frozenAt (K * 9 + 5)
        have z6b := hh1.out.frozenAt (K * 9 + 6)
        have a3 : W1.cell? ⟨go, K * 9 + 3, none⟩ = some (.int .i64 at0.to_) := ((hh1.out.cellAt (K * 9 + 3) (by omega)).trans (attsL_get (j := 3) hKl (by decide))).trans (by rw [hGet]; rfl)
        have a5 : W1.cell? ⟨go, K * 9 + 5, none⟩ = some (.int .i64 at0.wv) := ((hh1.out.cellAt (K * 9 + 5) (by omega)).trans (attsL_get (j := 5) hKl (by decide))).trans (by rw [hGet]; rfl)
        have a6 : W1.cell? ⟨go, K * 9 + 6, none⟩ = some (.bool at0.com) := ((hh1.out.cellAt (K * 9 + 6) (by omega)).trans (attsL_get (j := 6) hKl (by decide))).trans (by rw [hGet]; rfl)
        have n7 : ¬ (w2.heap.size + 1 = gw) := fun e => blk_ne hh1.own t7 (by decide) (by simp [Value.ownBlock, e])
        have n7' : ¬ (gw = w2.heap.size + 1) := fun e => n7 e.symm
        have n6 : ¬ (w2.heap.size = go) := fun e => blk_ne hh1.out t6 (by decide) (by simp [Value.ownBlock, e])
        have n6' : ¬ (go = w2.heap.size) := fun e => n6 e.symm
        have hne' : ¬ (gw = go) := fun e => hne e.symm
        have hsW1 : w.heap.size ≤ W1.heap.size := Nat.le_trans hsW hko.2.size
        have hkk : kind = 2 ∨ kind = 3 ∨ kind = 4 ∨ kind = 5 ∨ kind = 6 ∨ kind = 7 ∨ kind = 8 ∨ kind = 9 ∨ kind = 10 ∨ kind = 11 ∨ kind = 12 := by omega
        clear k1 k13 g1 hkd
        rcases hkk with kx | kx | kx | kx | kx | kx | kx | kx | kx | kx | kx
        · subst kx
          have hTA : turnA at0 oo ⟨2, th, tx, at_, v, x, why⟩ (k : Int) = at0 := rfl
          have hTO : turnO oo ⟨2, th, tx, at_, v, x, why⟩ = oo := rfl
          have HF := hid (And.intro hko (And.intro t6 (And.intro t7 (And.intro t1 hh1))))
          clear hko t6 t7 t1 hh1
          gi_wp2
          obtain ⟨hko, t6, t7, t1, hh1⟩ := HF.out
          exact ⟨(hko).1.from _, ⟨(hko).2, (hko).1.walks⟩, ⟨.slice (some ⟨go, 0, none⟩) h.out.length co, .slice (some ⟨gw, 0, none⟩) h.out.length cw, H, t6, t7, hh1.as (by first | exact ((set_same hk1).symm.trans (congrArg (h.out.set K) hTA.symm)) | exact (set_same hk1).symm) (by first | exact ((set_same hk2).symm.trans (congrArg (h.owned.set K) hTO.symm)) | exact (set_same hk2).symm)⟩, t1, HHB.out.trans (hko).2⟩
        · subst kx
          have hTA : turnA at0 oo ⟨3, th, tx, at_, v, x, why⟩ (k : Int) = { at0 with reads := at0.reads ++ [(at_, x)] } := rfl
          have hTO : turnO oo ⟨3, th, tx, at_, v, x, why⟩ = oo := rfl
          have hrow := (hh1.drew0.rows K false hKl)
          rw [hGet] at hrow
          have hprow := hrow.alloc (.cells #[.int .i64 at_, .int .i64 x] 61)
          have hfr := cells_fresh W1.drew #[.int .i64 at_, .int .i64 x] 61
          have hfs : W1.drew.heap.size = W1.heap.size := rfl
          rw [hfs] at hfr
          have hpl : (plB at0 false).length ≤ k := hlenfalse
          obtain ⟨v', w1, hrun, hown', hgrow, hnil, hblk⟩ := run_append_own_at (P := Tryd.prog) (W1.drew.alloc (.cells #[.int .i64 at_, .int .i64 x] 61)) w.heap.size 56 56 61 iP _ 2 16 Tryd.underlying56 hiP hp0 hp1 hp2 rfl (by decide) (H K false) _ _ hprow ⟨W1.heap.size, 0, none⟩ 1 1 [.int .i64 at_, .int .i64 x] rfl hfr (by simp [Value.oneCell']) (by unfold maxLen; omega) (by omega) (by rw [World.size_alloc, hfs]; omega)
          obtain ⟨gp, cp, rfl⟩ := ownsRow_succ hown'
          obtain ⟨hp1', hp2'⟩ := HistAt.pair (k := K) (b := false) (p := (at_, x)) (a' := { at0 with reads := at0.reads ++ [(at_, x)] }) ((hh1.drew0).calm (World.grownBy_alloc _ (.cells #[.int .i64 at_, .int .i64 x] 61) none)) hKl (by rw [hGet]; exact hown') (by exact hgrow) (by rcases hblk with e | e; exact .inl e; exact .inr ⟨_, e, Nat.le_refl _⟩) (by rw [hGet]; rfl) (by rw [hGet]; rfl) (by rw [hGet]; rfl)
          have hko3 := ((hko.drew.alloc hsW (.cells #[.int .i64 at_, .int .i64 x] 61)).grow hsW hprow hgrow)
          have hkoF := hko3.set (b := go) (o := K * 9 + 7) hgb (.slice (some ⟨gp, 0, none⟩) ((plB at0 false).length + 1) cp)
          have hw1o := row_grow ((hh1.drew0.out).alloc (.cells #[.int .i64 at_, .int .i64 x] 61)) hprow hgrow (by decide)
          have u6 := ((t6.drew).alloc (.cells #[.int .i64 at_, .int .i64 x] 61)).grow hprow hgrow (by decide)
          have u7 := ((t7.drew).alloc (.cells #[.int .i64 at_, .int .i64 x] 61)).grow hprow hgrow (by decide)
          have u1 := ((t1.drew).alloc (.cells #[.int .i64 at_, .int .i64 x] 61)).grow hprow hgrow (by decide)
          have t6F := u6.grown hp2' (fun e => blk_ne hw1o u6 (by decide) e)
          have t7F := u7.grown hp2' (fun e => blk_ne hw1o u7 (by decide) e)
          have t1F := u1.grown hp2' (fun e => blk_ne hw1o u1 (by decide) e)
          have zo := hw1o.frozenAt (K * 9 + 7)
          have dW := (hw1o.cellAt (K * 9 + 7) (by omega)).trans (attsL_get (j := 7) hKl (by decide))
          have HF := hid (And.intro hkoF (And.intro t6F (And.intro t7F (And.intro t1F hp1'))))
          have dE3 := bE.drew.cell 3 (v := .int .i64 at_) rfl
          have dE5 := bE.drew.cell 5 (v := .int .i64 x) rfl
          have dE3' := (bE.drew.alloc (.cells #[.int .i64 at_, .int .i64 x] 61)).cell 3 (v := .int .i64 at_) rfl
          have dE5' := (bE.drew.alloc (.cells #[.int .i64 at_, .int .i64 x] 61)).cell 5 (v := .int .i64 x) rfl
          have dH := ((hh1.drew0).out.cellAt (K * 9 + 7) (by omega)).trans (attsL_get (j := 7) hKl (by decide))
          have dH' := (((hh1.drew0).out.alloc (.cells #[.int .i64 at_, .int .i64 x] 61)).cellAt (K * 9 + 7) (by omega)).trans (attsL_get (j := 7) hKl (by decide))
          obtain ⟨Wd, hWd⟩ : ∃ Wd, Wd = W1.drew := ⟨_, rfl⟩
          obtain ⟨Wt, hWt⟩ : ∃ Wt, Wt = Wd.alloc (.cells #[.int .i64 at_, .int .i64 x] 61) := ⟨_, rfl⟩
          have hWds : Wd.heap.size = W1.heap.size := by rw [hWd]; rfl
          rw [← hWd] at hrun dE3 dE5 dH dE3' dE5' dH'
          rw [← hWt] at hrun dE3' dE5' dH'
          have HWd := hid hWd
          have HWt := hid hWt
          have HRUN := hid hrun
          clear hrun hko t6 t7 t1 hh1 hrow hprow hfr hfs hown' hgrow hnil hblk hp1' hp2' hko3 hkoF hw1o u6 u7 u1 t6F t7F t1F hWd hWt bE
          gi_wp2
          clear c6 c7 z6 z7
          apply wp_round_valsJ [.pointer (some ⟨go, K * 9, none⟩), .pointer (some ⟨go, K * 9, none⟩), .pointer (some ⟨go, K * 9, none⟩), .pointer (some ⟨go, K * 9 + 7, none⟩), H K false, .pointer (some ⟨W.heap.size, 3, none⟩), .int .i64 at_, .pointer (some ⟨W.heap.size, 5, none⟩), .int .i64 x, .agg #[.int .i64 at_, .int .i64 x], .slice (some ⟨W1.heap.size, 0, none⟩) 1 1, .slice (some ⟨gp, 0, none⟩) ((plB at0 false).length + 1) cp, .pointer (some ⟨go, K * 9, none⟩), .pointer (some ⟨go, K * 9 + 7, none⟩), undef] (Seq3 _ 10 11 14 Wd Wt w1 (w1.setCell ⟨go, K * 9 + 7, none⟩ (.slice (some ⟨gp, 0, none⟩) ((plB at0 false).length + 1) cp)))
          focus (simp [putAll, dstOf, Act.put, List.getD]; rfl)
          case hm => kernel_rfl
          case hnd => kernel_rfl
          case hq => rintro ⟨ax, wx, hx⟩; exact hx
          case hd => kernel_rfl
          case hb => kernel_rfl
          case hdep => kernel_rfl
          case hsel => kernel_rfl
          case hng => kernel_rfl
          case hgv => kernel_rfl
          case hsz => kernel_rfl
          case hext => (intro l1 l2 w' hx hG; exact hG.ext (by kernel_rfl) (of_decide_eq_true (by kernel_rfl)) (of_decide_eq_true (by kernel_rfl)) (of_decide_eq_true (by kernel_rfl)) hx)
          case h0 => (rw [← HWd.out]; exact Seq3.start)
          case hstep =>
            refine ⟨?_, ?_, ?_, ?_, ?_, ?_, ?_, ?_, ?_, ?_, ?_, ?_, ?_, ?_, ?_, trivial⟩
            · intro l' w' hl hdp hG
              rw [if_pos (by kernel_rfl)]
              intro K' Qp hK
              have HG := hid (hG.other (i := 0) rfl hdp (by decide) (by decide) (by decide))
              clear hG hl hdp
              go_simp
              exact hK _ HG.out
            · intro l' w' hl hdp hG
              rw [if_pos (by kernel_rfl)]
              intro K' Qp hK
              have HG := hid (hG.other (i := 1) rfl hdp (by decide) (by decide) (by decide))
              clear hG hl hdp
              go_simp
              exact hK _ HG.out
            · intro l' w' hl hdp hG
              rw [if_pos (by kernel_rfl)]
              intro K' Qp hK
              have HG := hid (hG.other (i := 2) rfl hdp (by decide) (by decide) (by decide))
              clear hG hl hdp
              go_simp
              exact hK _ HG.out
            · intro l' w' hl hdp hG
              rw [if_pos (by kernel_rfl)]
              intro K' Qp hK
              have HG := hid (hG.other (i := 3) rfl hdp (by decide) (by decide) (by decide))
              clear hG hl hdp
              go_simp
              exact hK _ HG.out
            · intro l' w' hl hdp hG
              rw [if_pos (by kernel_rfl)]
              intro K' Qp hK
              have hn11 : l' 11 = false := by
                cases h11 : l' 11 with
                | false => rfl
                | true => rw [hG.clo 11 _ 4 rfl h11 rfl] at hl; cases hl
              have HG := hid (hG.other (i := 4) rfl hdp (by decide) (by decide) (by decide))
              have hw : w' = Wd ∨ w' = Wt := by
                cases h10 : l' 10 with
                | false => exact .inl (hG.s0 h10)
                | true => exact .inr (hG.s1 h10 hn11)
              clear hG hl hdp hn11
              rcases hw with rfl | rfl
              · go_simp
                exact hK _ HG.out
              · go_simp
                exact hK _ HG.out
            · intro l' w' hl hdp hG
              rw [if_pos (by kernel_rfl)]
              intro K' Qp hK
              have HG := hid (hG.other (i := 5) rfl hdp (by decide) (by decide) (by decide))
              clear hG hl hdp
              go_simp
              exact hK _ HG.out
            · intro l' w' hl hdp hG
              rw [if_pos (by kernel_rfl)]
              intro K' Qp hK
              have hn11 : l' 11 = false := by
                cases h11 : l' 11 with
                | false => rfl
                | true => rw [hG.clo 9 _ 6 rfl (hG.clo 10 _ 9 rfl (hG.clo 11 _ 10 rfl h11 rfl) rfl) rfl] at hl; cases hl
              have HG := hid (hG.other (i := 6) rfl hdp (by decide) (by decide) (by decide))
              have hw : w' = Wd ∨ w' = Wt := by
                cases h10 : l' 10 with
                | false => exact .inl (hG.s0 h10)
                | true => exact .inr (hG.s1 h10 hn11)
              clear hG hl hdp hn11
              rcases hw with rfl | rfl
              · go_simp
                exact hK _ HG.out
              · go_simp
                exact hK _ HG.out
            · intro l' w' hl hdp hG
              rw [if_pos (by kernel_rfl)]
              intro K' Qp hK
              have HG := hid (hG.other (i := 7) rfl hdp (by decide) (by decide) (by decide))
              clear hG hl hdp
              go_simp
              exact hK _ HG.out
            · intro l' w' hl hdp hG
              rw [if_pos (by kernel_rfl)]
              intro K' Qp hK
              have hn11 : l' 11 = false := by
                cases h11 : l' 11 with
                | false => rfl
                | true => rw [hG.clo 9 _ 8 rfl (hG.clo 10 _ 9 rfl (hG.clo 11 _ 10 rfl h11 rfl) rfl) rfl] at hl; cases hl
              have HG := hid (hG.other (i := 8) rfl hdp (by decide) (by decide) (by decide))
              have hw : w' = Wd ∨ w' = Wt := by
                cases h10 : l' 10 with
                | false => exact .inl (hG.s0 h10)
                | true => exact .inr (hG.s1 h10 hn11)
              clear hG hl hdp hn11
              rcases hw with rfl | rfl
              · go_simp
                exact hK _ HG.out
              · go_simp
                exact hK _ HG.out
            · intro l' w' hl hdp hG
              rw [if_pos (by kernel_rfl)]
              intro K' Qp hK
              have HG := hid (hG.other (i := 9) rfl hdp (by decide) (by decide) (by decide))
              clear hG hl hdp
              go_simp
              exact hK _ HG.out
            · intro l' w' hl hdp hG
              rw [if_pos (by kernel_rfl)]
              intro K' Qp hK
              obtain ⟨rfl, hG'⟩ := hG.first rfl hdp hl (fun h11 => hG.clo 11 _ 10 rfl h11 rfl) (fun h14 => hG.clo 14 _ 11 rfl h14 rfl) (by decide) (by decide)
              have HG := hid hG'
              clear hG hl hdp hG'
              go_simp
              rw [← HWt.out]
              exact hK _ HG.out
            · intro l' w' hl hdp hG
              rw [if_pos (by kernel_rfl)]
              intro K' Qp hK
              obtain ⟨rfl, hG'⟩ := hG.second rfl hdp hl (hdp 10 rfl) (fun h14 => hG.clo 14 _ 11 rfl h14 rfl) (by decide) (by decide)
              have HG := hid hG'
              clear hG hl hdp hG'
              refine OpY.wp (opY_append (s := .tmp 60) (x := .tmp 66) (t := 56) rfl (vs := H K false) (vx := .slice (some ⟨W1.heap.size, 0, none⟩) 1 1) rfl rfl HRUN.out (hK _ HG.out))
            · intro l' w' hl hdp hG
              rw [if_pos (by kernel_rfl)]
              intro K' Qp hK
              have HG := hid (hG.other (i := 12) rfl hdp (by decide) (by decide) (by decide))
              clear hG hl hdp
              go_simp
              exact hK _ HG.out
            · intro l' w' hl hdp hG
              rw [if_pos (by kernel_rfl)]
              intro K' Qp hK
              have HG := hid (hG.other (i := 13) rfl hdp (by decide) (by decide) (by decide))
              clear hG hl hdp
              go_simp
              exact hK _ HG.out
            · intro l' w' hl hdp hG
              rw [if_pos (by kernel_rfl)]
              intro K' Qp hK
              obtain ⟨rfl, hG'⟩ := hG.third rfl hdp hl (hdp 11 rfl) (hG.clo 11 _ 10 rfl (hdp 11 rfl) rfl) (by decide) (by decide)
              have HG := hid hG'
              clear hG hl hdp hG'
              go_simp
              exact hK _ HG.out
          case hdone =>
            intro w' hG
            obtain rfl := hG.done
            clear hG
            gi_wp2
            obtain ⟨hko, t6, t7, t1, hh2⟩ := HF.out
            exact ⟨(hko).1.from _, ⟨(hko).2, (hko).1.walks⟩, ⟨.slice (some ⟨go, 0, none⟩) h.out.length co, .slice (some ⟨gw, 0, none⟩) h.out.length cw, _, t6, t7, hh2.as (by first | exact (congrArg (h.out.set K) hTA.symm) | exact rfl) (by first | exact ((set_same hk2).symm.trans (congrArg (h.owned.set K) hTO.symm)) | exact (set_same hk2).symm)⟩, t1, HHB.out.trans (hko).2⟩
        · subst kx
          have hTA : turnA at0 oo ⟨4, th, tx, at_, v, x, why⟩ (k : Int) = at0 := rfl
          have hTO : turnO oo ⟨4, th, tx, at_, v, x, why⟩ = oo + 1 := rfl
          have hc2 := hh1.count (k := K) (oo + 1)
          have hko2 := hko.set (b := gw) (o := K) hwb (.int .i64 (oo + 1))
          have t62 := t6.grown hc2.2 (fun e => blk_ne hh1.own t6 (by decide) e)
          have t72 := t7.grown hc2.2 (fun e => blk_ne hh1.own t7 (by decide) e)
          have t12 := t1.grown hc2.2 (fun e => blk_ne hh1.own t1 (by decide) e)
          have wr : IntKind.i64.wrap (oo + 1) = oo + 1 := IntWalk.i64_in _ (by omega)
          have HF := hid (And.intro hko2 (And.intro t62 (And.intro t72 (And.intro t12 hc2.1))))
          clear hko hko2 t6 t62 t7 t72 t1 t12 hh1 hc2
          gi_wp2
          obtain ⟨hko, t6, t7, t1, hh2⟩ := HF.out
          exact ⟨(hko).1.from _, ⟨(hko).2, (hko).1.walks⟩, ⟨.slice (some ⟨go, 0, none⟩) h.out.length co, .slice (some ⟨gw, 0, none⟩) h.out.length cw, H, t6, t7, hh2.as (by first | exact ((set_same hk1).symm.trans (congrArg (h.out.set K) hTA.symm)) | exact (set_same hk1).symm) (by first | exact (congrArg (h.owned.set K) hTO.symm) | exact rfl)⟩, t1, HHB.out.trans (hko).2⟩
        · subst kx
          have hTA : turnA at0 oo ⟨5, th, tx, at_, v, x, why⟩ (k : Int) = at0 := rfl
          have hTO : turnO oo ⟨5, th, tx, at_, v, x, why⟩ = oo := rfl
          have HF := hid (And.intro hko (And.intro t6 (And.intro t7 (And.intro t1 hh1))))
          clear hko t6 t7 t1 hh1
          gi_wp2
          obtain ⟨hko, t6, t7, t1, hh1⟩ := HF.out
          exact ⟨(hko).1.from _, ⟨(hko).2, (hko).1.walks⟩, ⟨.slice (some ⟨go, 0, none⟩) h.out.length co, .slice (some ⟨gw, 0, none⟩) h.out.length cw, H, t6, t7, hh1.as (by first | exact ((set_same hk1).symm.trans (congrArg (h.out.set K) hTA.symm)) | exact (set_same hk1).symm) (by first | exact ((set_same hk2).symm.trans (congrArg (h.owned.set K) hTO.symm)) | exact (set_same hk2).symm)⟩, t1, HHB.out.trans (hko).2⟩
        · subst kx
          have hTA : turnA at0 oo ⟨6, th, tx, at_, v, x, why⟩ (k : Int) = at0 := rfl
          have hTO : turnO oo ⟨6, th, tx, at_, v, x, why⟩ = oo := rfl
          have HF := hid (And.intro hko (And.intro t6 (And.intro t7 (And.intro t1 hh1))))
          clear hko t6 t7 t1 hh1
          gi_wp2
          obtain ⟨hko, t6, t7, t1, hh1⟩ := HF.out
          exact ⟨(hko).1.from _, ⟨(hko).2, (hko).1.walks⟩, ⟨.slice (some ⟨go, 0, none⟩) h.out.length co, .slice (some ⟨gw, 0, none⟩) h.out.length cw, H, t6, t7, hh1.as (by first | exact ((set_same hk1).symm.trans (congrArg (h.out.set K) hTA.symm)) | exact (set_same hk1).symm) (by first | exact ((set_same hk2).symm.trans (congrArg (h.owned.set K) hTO.symm)) | exact (set_same hk2).symm)⟩, t1, HHB.out.trans (hko).2⟩
        · subst kx
          have hTA : turnA at0 oo ⟨7, th, tx, at_, v, x, why⟩ (k : Int) = { at0 with com := true, wv := v, to_ := if oo = 0 then (k : Int) else at0.to_ } := rfl
          have hTO : turnO oo ⟨7, th, tx, at_, v, x, why⟩ = oo := rfl
          have hf1 := HistAt.field (k := K) (j := 6) (a' := { at0 with com := true }) (u := .bool true) hh1.drew0 hKl (by decide) (by rw [hGet]; rfl) (by intro b; rw [hGet]; cases b <;> rfl)
          have hf2 := HistAt.field (h := ⟨h.last, h.out.set K { at0 with com := true }, h.owned⟩) (k := K) (j := 5) (a' := { at0 with com := true, wv := v }) (u := .int .i64 v) (by have := hf1.1; rwa [show h.out.length = (h.out.set K { at0 with com := true }).length by rw [List.length_set]] at this) (by show K < (h.out.set K _).length; rw [List.length_set]; exact hKl) (by decide) (by show (attL ((h.out.set K _).getD K Att.zero) _ _).set _ _ = _; rw [getD_set_eq _ _ _ _ hKl]; rfl) (by intro b; show _ = plB ((h.out.set K _).getD K Att.zero) b; rw [getD_set_eq _ _ _ _ hKl]; cases b <;> rfl)
          have hlen2 : (h.out.set K { at0 with com := true }).length = h.out.length := by rw [List.length_set]
          have hh3' := hf2.1
          dsimp only at hh3'
          rw [hlen2, List.set_set] at hh3'
          have hko3' := ((hko.drew.set (b := go) (o := K * 9 + 6) hgb (.bool true)).set (b := go) (o := K * 9 + 5) hgb (.int .i64 v))
          have v6 := (t6.drew.grown hf1.2 (fun e => blk_ne hh1.drew0.out t6.drew (by decide) e)).grown hf2.2 (fun e => blk_ne hf1.1.out (t6.drew.grown hf1.2 (fun e => blk_ne hh1.drew0.out t6.drew (by decide) e)) (by decide) e)
          have v7 := (t7.drew.grown hf1.2 (fun e => blk_ne hh1.drew0.out t7.drew (by decide) e)).grown hf2.2 (fun e => blk_ne hf1.1.out (t7.drew.grown hf1.2 (fun e => blk_ne hh1.drew0.out t7.drew (by decide) e)) (by decide) e)
          have v1 := (t1.drew.grown hf1.2 (fun e => blk_ne hh1.drew0.out t1.drew (by decide) e)).grown hf2.2 (fun e => blk_ne hf1.1.out (t1.drew.grown hf1.2 (fun e => blk_ne hh1.drew0.out t1.drew (by decide) e)) (by decide) e)
          obtain ⟨W3, hW3⟩ : ∃ W3, W3 = (W1.drew.setCell ⟨go, K * 9 + 6, none⟩ (.bool true)).setCell ⟨go, K * 9 + 5, none⟩ (.int .i64 v) := ⟨_, rfl⟩
          rw [← hW3] at hh3' hko3' v6 v7 v1
          have HF := hid (And.intro hko3' (And.intro v6 (And.intro v7 (And.intro v1 hh3'))))
          have HW3 := hid hW3
          have HBE := hid bE.drew
          have hgW : W.heap.size ≠ go := by omega
          have hout1 : (W1.drew.setCell ⟨go, K * 9 + 6, none⟩ (.bool true)).ownsRow w.heap.size 58 9 (.slice (some ⟨go, 0, none⟩) h.out.length co) h.out.length (attsL (h.out.set K { at0 with com := true }) H) := by have := hf1.1.out; simpa only [List.length_set] using this
          have hKl1 : K < (h.out.set K { at0 with com := true }).length := by rw [List.length_set]; exact hKl
          have HQ5 : Hid ((W1.drew.setCell ⟨go, K * 9 + 6, none⟩ (.bool true)).cell? ⟨go, K * 9 + 5, none⟩ = some (.int .i64 at0.wv)) := hid (((hout1.cellAt (K * 9 + 5) (by omega)).trans (attsL_get (j := 5) hKl1 (by decide))).trans (by rw [getD_set_eq _ _ _ _ hKl]; rfl))
          clear hout1 hKl1
          have HZ := hid (And.intro a5 (And.intro a6 (And.intro z5 z6b)))
          clear hf1 hf2 hh3' hko3' v6 v7 v1 hW3 hko t6 t7 t1 hh1 bE hlen2
          gi_wp2
          clear c6 c7 z6 z7 dO zW a3 a5 a6 z3 z5 z6b f0 f3 f4 f5
          apply wp_round_valsJ [.pointer (some ⟨go, K * 9, none⟩), .pointer (some ⟨go, K * 9, none⟩), .pointer (some ⟨W.heap.size, 4, none⟩), .int .i64 v, .pointer (some ⟨go, K * 9, none⟩), .pointer (some ⟨go, K * 9 + 6, none⟩), undef, .pointer (some ⟨go, K * 9, none⟩), .pointer (some ⟨go, K * 9 + 5, none⟩), undef] (TwoSt W1.drew go (K * 9 + 6) (K * 9 + 5) (.bool true) (.int .i64 v) 6 9)
          focus (simp [putAll, dstOf, Act.put, List.getD]; rfl)
          case hm => kernel_rfl
          case hnd => kernel_rfl
          case hq => rintro ⟨ax, wx, hx⟩; exact hx
          case hd => kernel_rfl
          case hb => kernel_rfl
          case hdep => kernel_rfl
          case hsel => kernel_rfl
          case hng => kernel_rfl
          case hgv => kernel_rfl
          case hsz => kernel_rfl
          case hext => (intro l1 l2 w' hx hG; exact hG.ext (of_decide_eq_true (by kernel_rfl)) (of_decide_eq_true (by kernel_rfl)) hx)
          case h0 => exact TwoSt.start
          case hstep =>
            refine ⟨?_, ?_, ?_, ?_, ?_, ?_, ?_, ?_, ?_, ?_, trivial⟩
            · intro l' w' hl hdp hJ
              rw [if_pos (by kernel_rfl)]
              intro K' Qp hK
              have HJ := hid hJ
              clear hJ
              go_simp
              exact hK _ (HJ.out.other 0 (by omega) (by omega))
            · intro l' w' hl hdp hJ
              rw [if_pos (by kernel_rfl)]
              intro K' Qp hK
              have HJ := hid hJ
              clear hJ
              go_simp
              exact hK _ (HJ.out.other 1 (by omega) (by omega))
            · intro l' w' hl hdp hJ
              rw [if_pos (by kernel_rfl)]
              intro K' Qp hK
              have HJ := hid hJ
              clear hJ
              go_simp
              exact hK _ (HJ.out.other 2 (by omega) (by omega))
            · intro l' w' hl hdp hJ
              rw [if_pos (by kernel_rfl)]
              intro K' Qp hK
              have d4 := (hJ.blk2 hgW HBE.out).cell 4 (v := .int .i64 v) rfl
              have HJ := hid hJ
              clear hJ
              go_simp
              exact hK _ (HJ.out.other 3 (by omega) (by omega))
            · intro l' w' hl hdp hJ
              rw [if_pos (by kernel_rfl)]
              intro K' Qp hK
              have HJ := hid hJ
              clear hJ
              go_simp
              exact hK _ (HJ.out.other 4 (by omega) (by omega))
            · intro l' w' hl hdp hJ
              rw [if_pos (by kernel_rfl)]
              intro K' Qp hK
              have HJ := hid hJ
              clear hJ
              go_simp
              exact hK _ (HJ.out.other 5 (by omega) (by omega))
            · intro l' w' hl hdp hJ
              rw [if_pos (by kernel_rfl)]
              intro K' Qp hK
              obtain ⟨rfl, hJ'⟩ := hJ.first (by omega) hl
              have HJ := hid hJ'
              obtain ⟨q1, q2, q3, q4⟩ := HZ.out
              clear hJ hJ'
              go_simp
              exact hK _ HJ.out
            · intro l' w' hl hdp hJ
              rw [if_pos (by kernel_rfl)]
              intro K' Qp hK
              have HJ := hid hJ
              clear hJ
              go_simp
              exact hK _ (HJ.out.other 7 (by omega) (by omega))
            · intro l' w' hl hdp hJ
              rw [if_pos (by kernel_rfl)]
              intro K' Qp hK
              have HJ := hid hJ
              clear hJ
              go_simp
              exact hK _ (HJ.out.other 8 (by omega) (by omega))
            · intro l' w' hl hdp hJ
              rw [if_pos (by kernel_rfl)]
              intro K' Qp hK
              obtain ⟨rfl, hJ'⟩ := hJ.second (by omega) (hdp 6 rfl) hl
              have HJ := hid hJ'
              obtain ⟨q1, q2, q3, q4⟩ := HZ.out
              have q5' := HQ5.out
              clear hJ hJ'
              go_simp
              exact hK _ HJ.out
          case hdone =>
            intro w' hG
            have hw3 := hG.done
            rw [← HW3.out] at hw3
            subst hw3
            clear hG
            obtain ⟨hko, t6, t7, t1, hh3⟩ := HF.out
            have c6 := t6.cell 0 (v := .slice (some ⟨go, 0, none⟩) h.out.length co) rfl
            have c7 := t7.cell 0 (v := .slice (some ⟨gw, 0, none⟩) h.out.length cw) rfl
            have hown3 : w'.ownsRow w.heap.size 3 1 (.slice (some ⟨gw, 0, none⟩) h.out.length cw) h.out.length (h.owned.map (.int .i64)) := by have := hh3.own; simpa only [List.length_set] using this
            have hout3 : w'.ownsRow w.heap.size 58 9 (.slice (some ⟨go, 0, none⟩) h.out.length co) h.out.length (attsL (h.out.set K { at0 with com := true, wv := v }) H) := by have := hh3.out; simpa only [List.length_set] using this
            have dO := (hown3.cellAt K (by omega))
            rw [List.getElem?_map, hk2, Option.map_some] at dO
            have hKl' : K < (h.out.set K { at0 with com := true, wv := v }).length := by rw [List.length_set]; exact hKl
            have a3 : w'.cell? ⟨go, K * 9 + 3, none⟩ = some (.int .i64 at0.to_) := ((hout3.cellAt (K * 9 + 3) (by omega)).trans (attsL_get (j := 3) hKl' (by decide))).trans (by rw [getD_set_eq _ _ _ _ hKl]; rfl)
            have z3 := hout3.frozenAt (K * 9 + 3)
            clear HF hown3 hout3
            by_cases hz : oo = 0
            · rw [if_pos hz] at hTA
              have z1 : (oo == 0) = true := by rw [hz]; rfl
              clear hz
              have hf := HistAt.field (h := ⟨h.last, h.out.set K { at0 with com := true, wv := v }, h.owned⟩) (k := K) (j := 3) (a' := { at0 with com := true, wv := v, to_ := (k : Int) }) (u := .int .i64 (k : Int)) (by have := hh3; rwa [show h.out.length = (h.out.set K { at0 with com := true, wv := v }).length by rw [List.length_set]] at this) (by show K < (h.out.set K _).length; rw [List.length_set]; exact hKl) (by decide) (by show (attL ((h.out.set K _).getD K Att.zero) _ _).set _ _ = _; rw [getD_set_eq _ _ _ _ hKl]; rfl) (by intro b; show _ = plB ((h.out.set K _).getD K Att.zero) b; rw [getD_set_eq _ _ _ _ hKl]; cases b <;> rfl)
              have hlen3 : (h.out.set K { at0 with com := true, wv := v }).length = h.out.length := by rw [List.length_set]
              have hkoF := hko.set (b := go) (o := K * 9 + 3) hgb (.int .i64 (k : Int))
              have t6F := t6.grown hf.2 (fun e => blk_ne hh3.out t6 (by decide) (by simpa [Value.ownBlock] using e))
              have t7F := t7.grown hf.2 (fun e => blk_ne hh3.out t7 (by decide) (by simpa [Value.ownBlock] using e))
              have t1F := t1.grown hf.2 (fun e => blk_ne hh3.out t1 (by decide) (by simpa [Value.ownBlock] using e))
              have hhF := hf.1
              dsimp only at hhF
              rw [hlen3, List.set_set] at hhF
              have HF2 := hid (And.intro hkoF (And.intro t6F (And.intro t7F (And.intro t1F hhF))))
              clear hf hlen3 hkoF t6F t7F t1F hhF hko t6 t7 t1 hh3
              gi_wp2
              obtain ⟨hko, t6, t7, t1, hh2⟩ := HF2.out
              exact ⟨(hko).1.from _, ⟨(hko).2, (hko).1.walks⟩, ⟨.slice (some ⟨go, 0, none⟩) h.out.length co, .slice (some ⟨gw, 0, none⟩) h.out.length cw, H, t6, t7, hh2.as (by first | exact (congrArg (h.out.set K) hTA.symm) | exact rfl) (by first | exact ((set_same hk2).symm.trans (congrArg (h.owned.set K) hTO.symm)) | exact (set_same hk2).symm)⟩, t1, HHB.out.trans (hko).2⟩
            · rw [if_neg hz] at hTA
              have z1 : (oo == 0) = false := beq_eq_false_iff_ne.2 hz
              clear hz
              have HF2 := hid (And.intro hko (And.intro t6 (And.intro t7 (And.intro t1 hh3))))
              clear hko t6 t7 t1 hh3
              gi_wp2
              obtain ⟨hko, t6, t7, t1, hh2⟩ := HF2.out
              exact ⟨(hko).1.from _, ⟨(hko).2, (hko).1.walks⟩, ⟨.slice (some ⟨go, 0, none⟩) h.out.length co, .slice (some ⟨gw, 0, none⟩) h.out.length cw, H, t6, t7, hh2.as (by first | exact (congrArg (h.out.set K) hTA.symm) | exact rfl) (by first | exact ((set_same hk2).symm.trans (congrArg (h.owned.set K) hTO.symm)) | exact (set_same hk2).symm)⟩, t1, HHB.out.trans (hko).2⟩
        · subst kx
          have hTA : turnA at0 oo ⟨8, th, tx, at_, v, x, why⟩ (k : Int) = { at0 with writes := at0.writes ++ [(at_, x)] } := rfl
          have hTO : turnO oo ⟨8, th, tx, at_, v, x, why⟩ = oo := rfl
          have hrow := (hh1.drew0.rows K true hKl)
          rw [hGet] at hrow
          have hprow := hrow.alloc (.cells #[.int .i64 at_, .int .i64 x] 61)
          have hfr := cells_fresh W1.drew #[.int .i64 at_, .int .i64 x] 61
          have hfs : W1.drew.heap.size = W1.heap.size := rfl
          rw [hfs] at hfr
          have hpl : (plB at0 true).length ≤ k := hlentrue
          obtain ⟨v', w1, hrun, hown', hgrow, hnil, hblk⟩ := run_append_own_at (P := Tryd.prog) (W1.drew.alloc (.cells #[.int .i64 at_, .int .i64 x] 61)) w.heap.size 56 56 61 iP _ 2 16 Tryd.underlying56 hiP hp0 hp1 hp2 rfl (by decide) (H K true) _ _ hprow ⟨W1.heap.size, 0, none⟩ 1 1 [.int .i64 at_, .int .i64 x] rfl hfr (by simp [Value.oneCell']) (by unfold maxLen; omega) (by omega) (by rw [World.size_alloc, hfs]; omega)
          obtain ⟨gp, cp, rfl⟩ := ownsRow_succ hown'
          obtain ⟨hp1', hp2'⟩ := HistAt.pair (k := K) (b := true) (p := (at_, x)) (a' := { at0 with writes := at0.writes ++ [(at_, x)] }) ((hh1.drew0).calm (World.grownBy_alloc _ (.cells #[.int .i64 at_, .int .i64 x] 61) none)) hKl (by rw [hGet]; exact hown') (by exact hgrow) (by rcases hblk with e | e; exact .inl e; exact .inr ⟨_, e, Nat.le_refl _⟩) (by rw [hGet]; rfl) (by rw [hGet]; rfl) (by rw [hGet]; rfl)
          have hko3 := ((hko.drew.alloc hsW (.cells #[.int .i64 at_, .int .i64 x] 61)).grow hsW hprow hgrow)
          have hkoF := hko3.set (b := go) (o := K * 9 + 8) hgb (.slice (some ⟨gp, 0, none⟩) ((plB at0 true).length + 1) cp)
          have hw1o := row_grow ((hh1.drew0.out).alloc (.cells #[.int .i64 at_, .int .i64 x] 61)) hprow hgrow (by decide)
          have u6 := ((t6.drew).alloc (.cells #[.int .i64 at_, .int .i64 x] 61)).grow hprow hgrow (by decide)
          have u7 := ((t7.drew).alloc (.cells #[.int .i64 at_, .int .i64 x] 61)).grow hprow hgrow (by decide)
          have u1 := ((t1.drew).alloc (.cells #[.int .i64 at_, .int .i64 x] 61)).grow hprow hgrow (by decide)
          have t6F := u6.grown hp2' (fun e => blk_ne hw1o u6 (by decide) e)
          have t7F := u7.grown hp2' (fun e => blk_ne hw1o u7 (by decide) e)
          have t1F := u1.grown hp2' (fun e => blk_ne hw1o u1 (by decide) e)
          have zo := hw1o.frozenAt (K * 9 + 8)
          have dW := (hw1o.cellAt (K * 9 + 8) (by omega)).trans (attsL_get (j := 8) hKl (by decide))
          have HF := hid (And.intro hkoF (And.intro t6F (And.intro t7F (And.intro t1F hp1'))))
          have dE3 := bE.drew.cell 3 (v := .int .i64 at_) rfl
          have dE5 := bE.drew.cell 5 (v := .int .i64 x) rfl
          have dE3' := (bE.drew.alloc (.cells #[.int .i64 at_, .int .i64 x] 61)).cell 3 (v := .int .i64 at_) rfl
          have dE5' := (bE.drew.alloc (.cells #[.int .i64 at_, .int .i64 x] 61)).cell 5 (v := .int .i64 x) rfl
          have dH := ((hh1.drew0).out.cellAt (K * 9 + 8) (by omega)).trans (attsL_get (j := 8) hKl (by decide))
          have dH' := (((hh1.drew0).out.alloc (.cells #[.int .i64 at_, .int .i64 x] 61)).cellAt (K * 9 + 8) (by omega)).trans (attsL_get (j := 8) hKl (by decide))
          obtain ⟨Wd, hWd⟩ : ∃ Wd, Wd = W1.drew := ⟨_, rfl⟩
          obtain ⟨Wt, hWt⟩ : ∃ Wt, Wt = Wd.alloc (.cells #[.int .i64 at_, .int .i64 x] 61) := ⟨_, rfl⟩
          have hWds : Wd.heap.size = W1.heap.size := by rw [hWd]; rfl
          rw [← hWd] at hrun dE3 dE5 dH dE3' dE5' dH'
          rw [← hWt] at hrun dE3' dE5' dH'
          have HWd := hid hWd
          have HWt := hid hWt
          have HRUN := hid hrun
          clear hrun hko t6 t7 t1 hh1 hrow hprow hfr hfs hown' hgrow hnil hblk hp1' hp2' hko3 hkoF hw1o u6 u7 u1 t6F t7F t1F hWd hWt bE
          gi_wp2
          clear c6 c7 z6 z7
          apply wp_round_valsJ [.pointer (some ⟨go, K * 9, none⟩), .pointer (some ⟨go, K * 9, none⟩), .pointer (some ⟨go, K * 9, none⟩), .pointer (some ⟨go, K * 9 + 8, none⟩), H K true, .pointer (some ⟨W.heap.size, 3, none⟩), .int .i64 at_, .pointer (some ⟨W.heap.size, 5, none⟩), .int .i64 x, .agg #[.int .i64 at_, .int .i64 x], .slice (some ⟨W1.heap.size, 0, none⟩) 1 1, .slice (some ⟨gp, 0, none⟩) ((plB at0 true).length + 1) cp, .pointer (some ⟨go, K * 9, none⟩), .pointer (some ⟨go, K * 9 + 8, none⟩), undef] (Seq3 _ 10 11 14 Wd Wt w1 (w1.setCell ⟨go, K * 9 + 8, none⟩ (.slice (some ⟨gp, 0, none⟩) ((plB at0 true).length + 1) cp)))
          focus (simp [putAll, dstOf, Act.put, List.getD]; rfl)
          case hm => kernel_rfl
          case hnd => kernel_rfl
          case hq => rintro ⟨ax, wx, hx⟩; exact hx
          case hd => kernel_rfl
          case hb => kernel_rfl
          case hdep => kernel_rfl
          case hsel => kernel_rfl
          case hng => kernel_rfl
          case hgv => kernel_rfl
          case hsz => kernel_rfl
          case hext => (intro l1 l2 w' hx hG; exact hG.ext (by kernel_rfl) (of_decide_eq_true (by kernel_rfl)) (of_decide_eq_true (by kernel_rfl)) (of_decide_eq_true (by kernel_rfl)) hx)
          case h0 => (rw [← HWd.out]; exact Seq3.start)
          case hstep =>
            refine ⟨?_, ?_, ?_, ?_, ?_, ?_, ?_, ?_, ?_, ?_, ?_, ?_, ?_, ?_, ?_, trivial⟩
            · intro l' w' hl hdp hG
              rw [if_pos (by kernel_rfl)]
              intro K' Qp hK
              have HG := hid (hG.other (i := 0) rfl hdp (by decide) (by decide) (by decide))
              clear hG hl hdp
              go_simp
              exact hK _ HG.out
            · intro l' w' hl hdp hG
              rw [if_pos (by kernel_rfl)]
              intro K' Qp hK
              have HG := hid (hG.other (i := 1) rfl hdp (by decide) (by decide) (by decide))
              clear hG hl hdp
              go_simp
              exact hK _ HG.out
            · intro l' w' hl hdp hG
              rw [if_pos (by kernel_rfl)]
              intro K' Qp hK
              have HG := hid (hG.other (i := 2) rfl hdp (by decide) (by decide) (by decide))
              clear hG hl hdp
              go_simp
              exact hK _ HG.out
            · intro l' w' hl hdp hG
              rw [if_pos (by kernel_rfl)]
              intro K' Qp hK
              have HG := hid (hG.other (i := 3) rfl hdp (by decide) (by decide) (by decide))
              clear hG hl hdp
              go_simp
              exact hK _ HG.out
            · intro l' w' hl hdp hG
              rw [if_pos (by kernel_rfl)]
              intro K' Qp hK
              have hn11 : l' 11 = false := by
                cases h11 : l' 11 with
                | false => rfl
                | true => rw [hG.clo 11 _ 4 rfl h11 rfl] at hl; cases hl
              have HG := hid (hG.other (i := 4) rfl hdp (by decide) (by decide) (by decide))
              have hw : w' = Wd ∨ w' = Wt := by
                cases h10 : l' 10 with
                | false => exact .inl (hG.s0 h10)
                | true => exact .inr (hG.s1 h10 hn11)
              clear hG hl hdp hn11
              rcases hw with rfl | rfl
              · go_simp
                exact hK _ HG.out
              · go_simp
                exact hK _ HG.out
            · intro l' w' hl hdp hG
              rw [if_pos (by kernel_rfl)]
              intro K' Qp hK
              have HG := hid (hG.other (i := 5) rfl hdp (by decide) (by decide) (by decide))
              clear hG hl hdp
              go_simp
              exact hK _ HG.out
            · intro l' w' hl hdp hG
              rw [if_pos (by kernel_rfl)]
              intro K' Qp hK
              have hn11 : l' 11 = false := by
                cases h11 : l' 11 with
                | false => rfl
                | true => rw [hG.clo 9 _ 6 rfl (hG.clo 10 _ 9 rfl (hG.clo 11 _ 10 rfl h11 rfl) rfl) rfl] at hl; cases hl
              have HG := hid (hG.other (i := 6) rfl hdp (by decide) (by decide) (by decide))
              have hw : w' = Wd ∨ w' = Wt := by
                cases h10 : l' 10 with
                | false => exact .inl (hG.s0 h10)
                | true => exact .inr (hG.s1 h10 hn11)
              clear hG hl hdp hn11
              rcases hw with rfl | rfl
              · go_simp
                exact hK _ HG.out
              · go_simp
                exact hK _ HG.out
            · intro l' w' hl hdp hG
              rw [if_pos (by kernel_rfl)]
              intro K' Qp hK
              have HG := hid (hG.other (i := 7) rfl hdp (by decide) (by decide) (by decide))
              clear hG hl hdp
              go_simp
              exact hK _ HG.out
            · intro l' w' hl hdp hG
              rw [if_pos (by kernel_rfl)]
              intro K' Qp hK
              have hn11 : l' 11 = false := by
                cases h11 : l' 11 with
                | false => rfl
                | true => rw [hG.clo 9 _ 8 rfl (hG.clo 10 _ 9 rfl (hG.clo 11 _ 10 rfl h11 rfl) rfl) rfl] at hl; cases hl
              have HG := hid (hG.other (i := 8) rfl hdp (by decide) (by decide) (by decide))
              have hw : w' = Wd ∨ w' = Wt := by
                cases h10 : l' 10 with
                | false => exact .inl (hG.s0 h10)
                | true => exact .inr (hG.s1 h10 hn11)
              clear hG hl hdp hn11
              rcases hw with rfl | rfl
              · go_simp
                exact hK _ HG.out
              · go_simp
                exact hK _ HG.out
            · intro l' w' hl hdp hG
              rw [if_pos (by kernel_rfl)]
              intro K' Qp hK
              have HG := hid (hG.other (i := 9) rfl hdp (by decide) (by decide) (by decide))
              clear hG hl hdp
              go_simp
              exact hK _ HG.out
            · intro l' w' hl hdp hG
              rw [if_pos (by kernel_rfl)]
              intro K' Qp hK
              obtain ⟨rfl, hG'⟩ := hG.first rfl hdp hl (fun h11 => hG.clo 11 _ 10 rfl h11 rfl) (fun h14 => hG.clo 14 _ 11 rfl h14 rfl) (by decide) (by decide)
              have HG := hid hG'
              clear hG hl hdp hG'
              go_simp
              rw [← HWt.out]
              exact hK _ HG.out
            · intro l' w' hl hdp hG
              rw [if_pos (by kernel_rfl)]
              intro K' Qp hK
              obtain ⟨rfl, hG'⟩ := hG.second rfl hdp hl (hdp 10 rfl) (fun h14 => hG.clo 14 _ 11 rfl h14 rfl) (by decide) (by decide)
              have HG := hid hG'
              clear hG hl hdp hG'
              refine OpY.wp (opY_append (s := .tmp 76) (x := .tmp 82) (t := 56) rfl (vs := H K true) (vx := .slice (some ⟨W1.heap.size, 0, none⟩) 1 1) rfl rfl HRUN.out (hK _ HG.out))
            · intro l' w' hl hdp hG
              rw [if_pos (by kernel_rfl)]
              intro K' Qp hK
              have HG := hid (hG.other (i := 12) rfl hdp (by decide) (by decide) (by decide))
              clear hG hl hdp
              go_simp
              exact hK _ HG.out
            · intro l' w' hl hdp hG
              rw [if_pos (by kernel_rfl)]
              intro K' Qp hK
              have HG := hid (hG.other (i := 13) rfl hdp (by decide) (by decide) (by decide))
              clear hG hl hdp
              go_simp
              exact hK _ HG.out
            · intro l' w' hl hdp hG
              rw [if_pos (by kernel_rfl)]
              intro K' Qp hK
              obtain ⟨rfl, hG'⟩ := hG.third rfl hdp hl (hdp 11 rfl) (hG.clo 11 _ 10 rfl (hdp 11 rfl) rfl) (by decide) (by decide)
              have HG := hid hG'
              clear hG hl hdp hG'
              go_simp
              exact hK _ HG.out
          case hdone =>
            intro w' hG
            obtain rfl := hG.done
            clear hG
            gi_wp2
            obtain ⟨hko, t6, t7, t1, hh2⟩ := HF.out
            exact ⟨(hko).1.from _, ⟨(hko).2, (hko).1.walks⟩, ⟨.slice (some ⟨go, 0, none⟩) h.out.length co, .slice (some ⟨gw, 0, none⟩) h.out.length cw, _, t6, t7, hh2.as (by first | exact (congrArg (h.out.set K) hTA.symm) | exact rfl) (by first | exact ((set_same hk2).symm.trans (congrArg (h.owned.set K) hTO.symm)) | exact (set_same hk2).symm)⟩, t1, HHB.out.trans (hko).2⟩
        · subst kx
          have hTA : turnA at0 oo ⟨9, th, tx, at_, v, x, why⟩ (k : Int) = { at0 with to_ := if oo - 1 = 0 then (k : Int) else at0.to_ } := rfl
          have hTO : turnO oo ⟨9, th, tx, at_, v, x, why⟩ = oo - 1 := rfl
          have hc2 := hh1.count (k := K) (oo - 1)
          have hko2 := hko.set (b := gw) (o := K) hwb (.int .i64 (oo - 1))
          have t62 := t6.grown hc2.2 (fun e => blk_ne hh1.own t6 (by decide) e)
          have t72 := t7.grown hc2.2 (fun e => blk_ne hh1.own t7 (by decide) e)
          have t12 := t1.grown hc2.2 (fun e => blk_ne hh1.own t1 (by decide) e)
          have wr : IntKind.i64.wrap (oo - 1) = oo - 1 := IntWalk.i64_in _ (by omega)
          by_cases hz : oo - 1 = 0
          · rw [if_pos hz] at hTA
            have z1 : (oo - 1 == 0) = true := by rw [hz]; rfl
            clear hz
            have hf := HistAt.field (h := ⟨h.last, h.out, h.owned.set K (oo - 1)⟩) (k := K) (j := 3) (a' := { at0 with to_ := (k : Int) }) (u := .int .i64 (k : Int)) hc2.1 hKl (by decide) (by rw [hGet]; rfl) (by intro b; rw [hGet]; cases b <;> rfl)
            have hkoF := hko2.set (b := go) (o := K * 9 + 3) hgb (.int .i64 (k : Int))
            have t6F := t62.grown hf.2 (fun e => blk_ne hc2.1.out t62 (by decide) e)
            have t7F := t72.grown hf.2 (fun e => blk_ne hc2.1.out t72 (by decide) e)
            have t1F := t12.grown hf.2 (fun e => blk_ne hc2.1.out t12 (by decide) e)
            have HF := hid (And.intro hkoF (And.intro t6F (And.intro t7F (And.intro t1F hf.1))))
            clear hko t6 t7 t1 hh1 hko2 t62 t72 t12 hc2 hkoF t6F t7F t1F hf
            gi_wp2
            obtain ⟨hko, t6, t7, t1, hh2⟩ := HF.out
            exact ⟨(hko).1.from _, ⟨(hko).2, (hko).1.walks⟩, ⟨.slice (some ⟨go, 0, none⟩) h.out.length co, .slice (some ⟨gw, 0, none⟩) h.out.length cw, H, t6, t7, hh2.as (by first | exact (congrArg (h.out.set K) hTA.symm) | exact rfl) (by first | exact (congrArg (h.owned.set K) hTO.symm) | exact rfl)⟩, t1, HHB.out.trans (hko).2⟩
          · rw [if_neg hz] at hTA
            have z1 : (oo - 1 == 0) = false := beq_eq_false_iff_ne.2 hz
            clear hz
            have HF := hid (And.intro hko2 (And.intro t62 (And.intro t72 (And.intro t12 hc2.1))))
            clear hko t6 t7 t1 hh1 hko2 t62 t72 t12 hc2 
            gi_wp2
            obtain ⟨hko, t6, t7, t1, hh2⟩ := HF.out
            exact ⟨(hko).1.from _, ⟨(hko).2, (hko).1.walks⟩, ⟨.slice (some ⟨go, 0, none⟩) h.out.length co, .slice (some ⟨gw, 0, none⟩) h.out.length cw, H, t6, t7, hh2.as (by first | exact ((set_same hk1).symm.trans (congrArg (h.out.set K) hTA.symm)) | exact (set_same hk1).symm) (by first | exact (congrArg (h.owned.set K) hTO.symm) | exact rfl)⟩, t1, HHB.out.trans (hko).2⟩
        · subst kx
          have hTA : turnA at0 oo ⟨10, th, tx, at_, v, x, why⟩ (k : Int) = { at0 with to_ := if oo = 0 then (k : Int) else at0.to_ } := rfl
          have hTO : turnO oo ⟨10, th, tx, at_, v, x, why⟩ = oo := rfl
          by_cases hz : oo = 0
          · rw [if_pos hz] at hTA
            have z1 : (oo == 0) = true := by rw [hz]; rfl
            clear hz
            have hf := HistAt.field (k := K) (j := 3) (a' := { at0 with to_ := (k : Int) }) (u := .int .i64 (k : Int)) hh1 hKl (by decide) (by rw [hGet]; rfl) (by intro b; rw [hGet]; cases b <;> rfl)
            have hkoF := hko.set (b := go) (o := K * 9 + 3) hgb (.int .i64 (k : Int))
            have t6F := t6.grown hf.2 (fun e => blk_ne hh1.out t6 (by decide) e)
            have t7F := t7.grown hf.2 (fun e => blk_ne hh1.out t7 (by decide) e)
            have t1F := t1.grown hf.2 (fun e => blk_ne hh1.out t1 (by decide) e)
            have HF := hid (And.intro hkoF (And.intro t6F (And.intro t7F (And.intro t1F hf.1))))
            clear hko t6 t7 t1 hh1 hkoF t6F t7F t1F hf
            gi_wp2
            obtain ⟨hko, t6, t7, t1, hh2⟩ := HF.out
            exact ⟨(hko).1.from _, ⟨(hko).2, (hko).1.walks⟩, ⟨.slice (some ⟨go, 0, none⟩) h.out.length co, .slice (some ⟨gw, 0, none⟩) h.out.length cw, H, t6, t7, hh2.as (by first | exact (congrArg (h.out.set K) hTA.symm) | exact rfl) (by first | exact ((set_same hk2).symm.trans (congrArg (h.owned.set K) hTO.symm)) | exact (set_same hk2).symm)⟩, t1, HHB.out.trans (hko).2⟩
          · rw [if_neg hz] at hTA
            have z1 : (oo == 0) = false := beq_eq_false_iff_ne.2 hz
            clear hz
            have HF := hid (And.intro hko (And.intro t6 (And.intro t7 (And.intro t1 hh1))))
            clear hko t6 t7 t1 hh1 
            gi_wp2
            obtain ⟨hko, t6, t7, t1, hh2⟩ := HF.out
            exact ⟨(hko).1.from _, ⟨(hko).2, (hko).1.walks⟩, ⟨.slice (some ⟨go, 0, none⟩) h.out.length co, .slice (some ⟨gw, 0, none⟩) h.out.length cw, H, t6, t7, hh2.as (by first | exact ((set_same hk1).symm.trans (congrArg (h.out.set K) hTA.symm)) | exact (set_same hk1).symm) (by first | exact ((set_same hk2).symm.trans (congrArg (h.owned.set K) hTO.symm)) | exact (set_same hk2).symm)⟩, t1, HHB.out.trans (hko).2⟩
        · subst kx
          have hTA : turnA at0 oo ⟨11, th, tx, at_, v, x, why⟩ (k : Int) = { at0 with to_ := if oo - 1 = 0 then (k : Int) else at0.to_ } := rfl
          have hTO : turnO oo ⟨11, th, tx, at_, v, x, why⟩ = oo - 1 := rfl
          have hc2 := hh1.count (k := K) (oo - 1)
          have hko2 := hko.set (b := gw) (o := K) hwb (.int .i64 (oo - 1))
          have t62 := t6.grown hc2.2 (fun e => blk_ne hh1.own t6 (by decide) e)
          have t72 := t7.grown hc2.2 (fun e => blk_ne hh1.own t7 (by decide) e)
          have t12 := t1.grown hc2.2 (fun e => blk_ne hh1.own t1 (by decide) e)
          have wr : IntKind.i64.wrap (oo - 1) = oo - 1 := IntWalk.i64_in _ (by omega)
          by_cases hz : oo - 1 = 0
          · rw [if_pos hz] at hTA
            have z1 : (oo - 1 == 0) = true := by rw [hz]; rfl
            clear hz
            have hf := HistAt.field (h := ⟨h.last, h.out, h.owned.set K (oo - 1)⟩) (k := K) (j := 3) (a' := { at0 with to_ := (k : Int) }) (u := .int .i64 (k : Int)) hc2.1 hKl (by decide) (by rw [hGet]; rfl) (by intro b; rw [hGet]; cases b <;> rfl)
            have hkoF := hko2.set (b := go) (o := K * 9 + 3) hgb (.int .i64 (k : Int))
            have t6F := t62.grown hf.2 (fun e => blk_ne hc2.1.out t62 (by decide) e)
            have t7F := t72.grown hf.2 (fun e => blk_ne hc2.1.out t72 (by decide) e)
            have t1F := t12.grown hf.2 (fun e => blk_ne hc2.1.out t12 (by decide) e)
            have HF := hid (And.intro hkoF (And.intro t6F (And.intro t7F (And.intro t1F hf.1))))
            clear hko t6 t7 t1 hh1 hko2 t62 t72 t12 hc2 hkoF t6F t7F t1F hf
            gi_wp2
            obtain ⟨hko, t6, t7, t1, hh2⟩ := HF.out
            exact ⟨(hko).1.from _, ⟨(hko).2, (hko).1.walks⟩, ⟨.slice (some ⟨go, 0, none⟩) h.out.length co, .slice (some ⟨gw, 0, none⟩) h.out.length cw, H, t6, t7, hh2.as (by first | exact (congrArg (h.out.set K) hTA.symm) | exact rfl) (by first | exact (congrArg (h.owned.set K) hTO.symm) | exact rfl)⟩, t1, HHB.out.trans (hko).2⟩
          · rw [if_neg hz] at hTA
            have z1 : (oo - 1 == 0) = false := beq_eq_false_iff_ne.2 hz
            clear hz
            have HF := hid (And.intro hko2 (And.intro t62 (And.intro t72 (And.intro t12 hc2.1))))
            clear hko t6 t7 t1 hh1 hko2 t62 t72 t12 hc2 
            gi_wp2
            obtain ⟨hko, t6, t7, t1, hh2⟩ := HF.out
            exact ⟨(hko).1.from _, ⟨(hko).2, (hko).1.walks⟩, ⟨.slice (some ⟨go, 0, none⟩) h.out.length co, .slice (some ⟨gw, 0, none⟩) h.out.length cw, H, t6, t7, hh2.as (by first | exact ((set_same hk1).symm.trans (congrArg (h.out.set K) hTA.symm)) | exact (set_same hk1).symm) (by first | exact (congrArg (h.owned.set K) hTO.symm) | exact rfl)⟩, t1, HHB.out.trans (hko).2⟩
        · subst kx
          have hTA : turnA at0 oo ⟨12, th, tx, at_, v, x, why⟩ (k : Int) = { at0 with to_ := (k : Int) } := rfl
          have hTO : turnO oo ⟨12, th, tx, at_, v, x, why⟩ = oo := rfl
          have hf := HistAt.field (k := K) (j := 3) (a' := { at0 with to_ := (k : Int) }) (u := .int .i64 (k : Int)) hh1 hKl (by decide) (by rw [hGet]; rfl) (by intro b; rw [hGet]; cases b <;> rfl)
          have hkoF := hko.set (b := go) (o := K * 9 + 3) hgb (.int .i64 (k : Int))
          have t6F := t6.grown hf.2 (fun e => blk_ne hh1.out t6 (by decide) e)
          have t7F := t7.grown hf.2 (fun e => blk_ne hh1.out t7 (by decide) e)
          have t1F := t1.grown hf.2 (fun e => blk_ne hh1.out t1 (by decide) e)
          have HF := hid (And.intro hkoF (And.intro t6F (And.intro t7F (And.intro t1F hf.1))))
          clear hko t6 t7 t1 hh1 hkoF t6F t7F t1F hf
          gi_wp2
          obtain ⟨hko, t6, t7, t1, hh2⟩ := HF.out
          exact ⟨(hko).1.from _, ⟨(hko).2, (hko).1.walks⟩, ⟨.slice (some ⟨go, 0, none⟩) h.out.length co, .slice (some ⟨gw, 0, none⟩) h.out.length cw, H, t6, t7, hh2.as (by first | exact (congrArg (h.out.set K) hTA.symm) | exact rfl) (by first | exact ((set_same hk2).symm.trans (congrArg (h.owned.set K) hTO.symm)) | exact (set_same hk2).symm)⟩, t1, HHB.out.trans (hko).2⟩
  case hdone =>
    rintro D W hD ⟨⟨vo, vw, H, h6, h7, hh⟩, h1, hB⟩ hK
    have hvc := h6.cell 0 (v := vo) rfl
    gi_wp2
    refine ⟨by simp, .inl ⟨_, _, rfl, run_takeDeferred hK, ?_⟩⟩
    refine ⟨.tuple #[vo, .int .i64 0], by simp [results, Tryd.results8, go_sem], ?_⟩
    rw [List.take_length] at hh
    refine HP.out vo _ (hB.trans (belowK_b (Nat.le_of_lt HSZ.out.2) W D _ _ (by have := HSZ.out; omega) hK rfl rfl)) ⟨H, ownsRow_putObj hh.out (.deferred none) hK rfl, fun k b hk => ownsRow_putObj (hh.rows k b hk) (.deferred none) hK rfl⟩
end Go.Proofs.YtcddlnmcjmhbcaaDoor
/-
  Walks: history.Of and history.Split, whatever the trace.
-/
namespace Go.Proofs.YtcddlnmcjmhbcaaDoor
set_option linter.unusedVariables false
open Go Go.RowKit
theorem of_any (T V S : Int) (a : Option Addr) (l : List Ev) (cap : Nat) (w : World) (hE : EvsAt w a l) (hK : KindsAt w) (hT : TabOk w) : Calls Tryd.prog 8 #[trA T V S a l.length cap] w (OfP T V S l w) := by
  by_cases hc : (checkT T V S l).2 = 0
  · exact of_ok T V S a l cap w hE hK hT hc
  · exact of_no T V S a l cap w hE hK hT hc
theorem split_any (T V S : Int) (a : Option Addr) (l : List Ev) (cap : Nat) (w : World) (hE : EvsAt w a l) (hK : KindsAt w) (hT : TabOk w) : Calls Tryd.prog 10 #[trA T V S a l.length cap] w (SplitP T V S l w) := by
  by_cases hc : (checkT T V S l).2 = 0
  · exact split_ok T V S a l cap w hE hK hT hc
  · exact split_no T V S a l cap w hE hK hT hc
end Go.Proofs.YtcddlnmcjmhbcaaDoor
