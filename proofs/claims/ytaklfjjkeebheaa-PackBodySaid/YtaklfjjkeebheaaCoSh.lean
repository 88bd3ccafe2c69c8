/-
  Walks: code.shaped and its closure.
-/
import Derived.Test.YtaklfjjkeebheaaCoOf
import Derived.Test.YtaklfjjkeebheaaPbE
namespace Go.Proofs.Ytaklfjjkeebheaa
set_option linter.unusedVariables false
set_option linter.unusedSimpArgs false
set_option linter.unusedVariables false
open Go Go.RowKit
def fitsS (q : Bool) (e : Ex) (n : Int) : Bool := if q then mayS e n else noneS e
def toBad (x : Asks) (t : Int) : Bool := t < 0 || 8 ≤ t || (!x.to_ && t != 0)
def shapedS (s : St) (n : Int) : Bool :=
  (asksS s.kind).is_ && !toBad (asksS s.kind) s.to && fitsS (asksS s.kind).a_ s.a n && fitsS (asksS s.kind).b_ s.b n &&
    ((asksS s.kind).body_ || s.body.isEmpty) && ((asksS s.kind).other_ || s.els.isEmpty)
set_option maxRecDepth 100000 in
set_option maxHeartbeats 4000000 in
theorem fits_any (q : Bool) (e : Ex) (n : Int) (b : Nat) (w : World) (v0 v1 v2 : Value) (h : RdEx w e v0 v1 v2) (hb : w.cell? ⟨b, 0, none⟩ = some (.int .i64 n)) :
    Calls Try.prog 68 #[.bool q, .agg #[v0, v1, v2], .pointer (some ⟨b, 0, none⟩)] w fun e' w' => e' = .returned (.bool (fitsS q e n)) ∧ Below w.heap.size w w' := by
  obtain ⟨a, cap, rfl, rfl, rfl⟩ := h.shape
  have hbl := lt_of_cell hb
  have HR := hid (h.below (ext_alloc (ext_refl w) (.cells #[.int .u8 e.op, .int .i64 e.n, .slice a e.args.length cap] 89)))
  have hn := later (ext_alloc (ext_refl w) (.cells #[.int .u8 e.op, .int .i64 e.n, .slice a e.args.length cap] 89)) hb
  clear h hb
  cases q with
  | true =>
    go_enter Try.func68, Try.ntmps68
    go_wp2_with fail
    refine (may_any e n _ _ _ _ HR.out).mono ?_
    rintro e' w1 ⟨rfl, hb1⟩
    have hf := ext_trans (ext_alloc (ext_refl w) _) hb1
    go_wp2_with fail
    go_ret
    exact ⟨rfl, hf⟩
  | false =>
    go_enter Try.func68, Try.ntmps68
    go_wp2_with fail
    refine (none_any e _ _ _ _ HR.out).mono ?_
    rintro e' w1 ⟨rfl, hb1⟩
    have hf := ext_trans (ext_alloc (ext_refl w) _) hb1
    go_wp2_with fail
    go_ret
    exact ⟨rfl, hf⟩
theorem RdSt.bounds {w : World} : ∀ {s : St} {k t a0 a1 a2 b0 b1 b2 bo el}, RdSt w s k t a0 a1 a2 b0 b1 b2 bo el → 0 ≤ s.kind ∧ s.kind ≤ 255
  | .mk kind tt a b body els, k, t, a0, a1, a2, b0, b1, b2, bo, el, h => by unfold RdSt at h; exact h.2.2.1
theorem len_zero {l : List St} : l.isEmpty = decide (l.length = 0) := by cases l <;> simp
theorem asks_none {k : Int} (h : (asksS k).is_ = false) : asksS k = ⟨false, false, false, false, false, false⟩ := by
  unfold asksS at h ⊢
  repeat' split at h
  all_goals first | cases h | skip
  repeat (first | rw [if_neg ‹_›] | rfl)
set_option maxRecDepth 100000 in
set_option maxHeartbeats 4000000 in
theorem shaped_any (s : St) (n : Int) (w : World) (k t a0 a1 a2 b0 b1 b2 bo el : Value) (h : RdSt w s k t a0 a1 a2 b0 b1 b2 bo el) :
    Calls Try.prog 56 #[.agg #[k, t, a0, a1, a2, b0, b1, b2, bo, el], .int .i64 n] w fun e' w' => e' = .returned (.bool (shapedS s n)) ∧ Below w.heap.size w w' := by
  obtain ⟨hk0, hk1⟩ := h.bounds
  obtain ⟨rfl, rfl, ga, gb, g3, g4⟩ := h.shape
  obtain ⟨pa, ca, rfl, rfl, rfl⟩ := ga.shape
  obtain ⟨pb, cb, rfl, rfl, rfl⟩ := gb.shape
  obtain ⟨pp, c1, rfl, -, -⟩ := g3
  obtain ⟨pq, c2, rfl, -, -⟩ := g4
  clear h
  obtain ⟨W1, hW1⟩ : ∃ W1, W1 = (w.alloc (.cells #[.int .u8 s.kind, .int .i64 s.to, .int .u8 s.a.op, .int .i64 s.a.n, .slice pa s.a.args.length ca, .int .u8 s.b.op, .int .i64 s.b.n, .slice pb s.b.args.length cb, .slice pp s.body.length c1, .slice pq s.els.length c2] 91)).alloc (.cells #[.int .i64 n] 3) := ⟨_, rfl⟩
  have hb0 : Below w.heap.size w W1 := by rw [hW1]; exact ext_alloc (ext_alloc (ext_refl w) _) _
  have bx : Blk W1 w.heap.size #[.int .u8 s.kind, .int .i64 s.to, .int .u8 s.a.op, .int .i64 s.a.n, .slice pa s.a.args.length ca, .int .u8 s.b.op, .int .i64 s.b.n, .slice pb s.b.args.length cb, .slice pp s.body.length c1, .slice pq s.els.length c2] 91 := by rw [hW1]; exact (Blk.new _ _ _).alloc _
  have bn : Blk W1 (w.heap.size + 1) #[.int .i64 n] 3 := by rw [hW1]; exact Blk.new' _ _ _ (by rw [World.size_alloc])
  have HOF := hid (of_any s.kind hk0 hk1)
  have HA := hid (fun (W : World) (hb : Below w.heap.size w W) (hc : W.cell? ⟨w.heap.size + 1, 0, none⟩ = some (.int .i64 n)) => fits_any (asksS s.kind).a_ s.a n (w.heap.size + 1) W _ _ _ (ga.below hb) hc)
  have HB := hid (fun (W : World) (hb : Below w.heap.size w W) (hc : W.cell? ⟨w.heap.size + 1, 0, none⟩ = some (.int .i64 n)) => fits_any (asksS s.kind).b_ s.b n (w.heap.size + 1) W _ _ _ (gb.below hb) hc)
  have HS : Hid (shapedS s n = ((asksS s.kind).is_ && !toBad (asksS s.kind) s.to && fitsS (asksS s.kind).a_ s.a n && fitsS (asksS s.kind).b_ s.b n && ((asksS s.kind).body_ || decide (s.body.length = 0)) && ((asksS s.kind).other_ || decide (s.els.length = 0)))) := hid (by unfold shapedS; rw [len_zero, len_zero])
  have HIS := hid (asks_none (k := s.kind))
  have HBX := hid bx
  have HBN := hid bn
  have HB0 := hid hb0
  have HW1 := hid hW1
  clear ga gb bx bn hb0 hW1 hk0 hk1
  generalize shapedS s n = res at *
  generalize fitsS (asksS s.kind).a_ s.a n = fa at *
  generalize fitsS (asksS s.kind).b_ s.b n = fb at *
  generalize asksS s.kind = x at *
  go_enter Try.func56, Try.ntmps56
  go_wp2_with fail
  rw [← HW1.out]
  refine (HOF.out _).mono ?_
  rintro e' w1 ⟨rfl, hb1⟩
  unfold asksV
  have HBX1 := hid (HBX.out.below hb1)
  have HBN1 := hid (HBN.out.below hb1)
  have HB1 := hid (ext_trans HB0.out hb1)
  have d0 := HBX1.out.cell 0 (v := .int .u8 s.kind) rfl
  have d1 := HBX1.out.cell 1 (v := .int .i64 s.to) rfl
  have d2 := HBX1.out.cell 2 (v := .int .u8 s.a.op) rfl
  have d3 := HBX1.out.cell 3 (v := .int .i64 s.a.n) rfl
  have d4 := HBX1.out.cell 4 (v := .slice pa s.a.args.length ca) rfl
  have d5 := HBX1.out.cell 5 (v := .int .u8 s.b.op) rfl
  have d6 := HBX1.out.cell 6 (v := .int .i64 s.b.n) rfl
  have d7 := HBX1.out.cell 7 (v := .slice pb s.b.args.length cb) rfl
  have d8 := HBX1.out.cell 8 (v := .slice pp s.body.length c1) rfl
  have d9 := HBX1.out.cell 9 (v := .slice pq s.els.length c2) rfl
  have dn := HBN1.out.cell 0 (v := .int .i64 n) rfl
  have hl0 := HBX1.out.lt
  have hl1 := HBN1.out.lt
  clear hb1
  clear HBX HBN HB0 HW1 HOF
  generalize s.to = t at *
  generalize s.kind = kk at *
  generalize s.body.length = lb at *
  generalize s.els.length = le at *
  generalize s.a.op = aop at *
  generalize s.a.n = an at *
  generalize s.b.op = bop at *
  generalize s.b.n = bn at *
  generalize s.a.args.length = al at *
  generalize s.b.args.length = bl at *
  cases hx : x.is_ with
  | false =>
    have := HIS.out hx
    subst this
    obtain rfl : res = false := by rw [HS.out]; rfl
    clear HS HIS hx HA HB
    have hf := HB1.out
    go_wp2_with fail
    go_ret
    exact ⟨rfl, ext_trans hf (ext_alloc (ext_refl _) _)⟩
  | true =>
    obtain ⟨xi, xt, xa, xb, xo, xe⟩ := x
    dsimp only at hx HA HB HS ⊢
    subst hx
    clear HIS
    have hcase : t < 0 ∨ 8 ≤ t ∨ (xt = false ∧ 0 < t ∧ t < 8) ∨ (xt = true ∧ 0 ≤ t ∧ t < 8) ∨ (xt = false ∧ t = 0) := by
      cases xt <;> simp <;> omega
    rcases hcase with ht | ht | ⟨rfl, ht1, ht2⟩ | ⟨rfl, ht1, ht2⟩ | ⟨rfl, rfl⟩
    · have k1 : decide (t < 0) = true := decide_eq_true ht
      obtain rfl : res = false := by rw [HS.out]; simp [toBad, k1]
      clear HS HA HB
      have hf := HB1.out
      go_wp2_with fail
      go_ret
      exact ⟨rfl, ext_trans hf (ext_alloc (ext_refl _) _)⟩
    · have k1 : decide (t < 0) = false := decide_eq_false (by omega)
      have k2 : decide (8 ≤ t) = true := decide_eq_true ht
      obtain rfl : res = false := by rw [HS.out]; simp [toBad, k1, k2]
      clear HS HA HB
      have hf := HB1.out
      go_wp2_with fail
      go_ret
      exact ⟨rfl, ext_trans hf (ext_alloc (ext_refl _) _)⟩
    · have k1 : decide (t < 0) = false := decide_eq_false (by omega)
      have k2 : decide (8 ≤ t) = false := decide_eq_false (by omega)
      have k3 : (t == 0) = false := beq_eq_false_iff_ne.2 (by omega)
      have k4 : (t != 0) = true := bne_iff_ne.2 (by omega)
      obtain rfl : res = false := by rw [HS.out]; simp [toBad, k1, k2, k3, k4]
      clear HS HA HB
      have hf := HB1.out
      go_wp2_with fail
      go_ret
      exact ⟨rfl, ext_trans hf (ext_alloc (ext_refl _) _)⟩
    · have k1 : decide (t < 0) = false := decide_eq_false (by omega)
      have k2 : decide (8 ≤ t) = false := decide_eq_false (by omega)
      have HS' : Hid (res = (fa && fb && (xo || decide (lb = 0)) && (xe || decide (le = 0)))) := hid (by rw [HS.out]; simp [toBad, k1, k2])
      clear HS
      obtain ⟨W2, hW2⟩ : ∃ W2, W2 = w1.alloc (.cells #[.bool true, .bool true, .bool xa, .bool xb, .bool xo, .bool xe] 130) := ⟨_, rfl⟩
      have hB2 : Below w.heap.size w W2 := by rw [hW2]; exact ext_trans HB1.out (ext_alloc (ext_refl _) _)
      have HX2 := hid (show Blk W2 w.heap.size _ _ by rw [hW2]; exact HBX1.out.alloc _)
      have HN2 := hid (show Blk W2 (w.heap.size + 1) _ _ by rw [hW2]; exact HBN1.out.alloc _)
      have HA2 := hid (show Blk W2 w1.heap.size #[.bool true, .bool true, .bool xa, .bool xb, .bool xo, .bool xe] 130 by rw [hW2]; exact Blk.new _ _ _)
      have HB2 := hid hB2
      have HW2 := hid hW2
      clear hB2 hW2
      go_wp2_with fail
      rw [← HW2.out]
      refine (HA.out _ HB2.out (HN2.out.cell 0 rfl)).mono ?_
      rintro e' w3 ⟨rfl, hb3⟩
      clear d0 d1 d2 d3 d4 d5 d6 d7 d8 d9 dn hl0 hl1 HA
      have HX3 := hid (HX2.out.below hb3)
      have HN3 := hid (HN2.out.below hb3)
      have HA3 := hid (HA2.out.below hb3)
      have HB3 := hid (ext_trans HB2.out hb3)
      have d0 := HX3.out.cell 0 (v := .int .u8 kk) rfl
      have d1 := HX3.out.cell 1 (v := .int .i64 t) rfl
      have d2 := HX3.out.cell 2 (v := .int .u8 aop) rfl
      have d3 := HX3.out.cell 3 (v := .int .i64 an) rfl
      have d4 := HX3.out.cell 4 (v := .slice pa al ca) rfl
      have d5 := HX3.out.cell 5 (v := .int .u8 bop) rfl
      have d6 := HX3.out.cell 6 (v := .int .i64 bn) rfl
      have d7 := HX3.out.cell 7 (v := .slice pb bl cb) rfl
      have d8 := HX3.out.cell 8 (v := .slice pp lb c1) rfl
      have d9 := HX3.out.cell 9 (v := .slice pq le c2) rfl
      have a0 := HA3.out.cell 0 (v := .bool true) rfl
      have a1 := HA3.out.cell 1 (v := .bool true) rfl
      have a2 := HA3.out.cell 2 (v := .bool xa) rfl
      have a3 := HA3.out.cell 3 (v := .bool xb) rfl
      have a4 := HA3.out.cell 4 (v := .bool xo) rfl
      have a5 := HA3.out.cell 5 (v := .bool xe) rfl
      clear hb3 HX2 HN2 HA2 HB2 HW2 HBX1 HBN1 HB1
      cases fa with
      | false =>
        obtain rfl : res = false := by rw [HS'.out]; rfl
        have hf := HB3.out
        clear HB HS'
        go_wp2_with fail
        go_ret
        exact ⟨rfl, hf⟩
      | true =>
        go_wp2_with fail
        refine (HB.out _ HB3.out (HN3.out.cell 0 rfl)).mono ?_
        rintro e' w4 ⟨rfl, hb4⟩
        clear d0 d1 d2 d3 d4 d5 d6 d7 d8 d9 a0 a1 a2 a3 a4 a5 HB
        have HX4 := hid (HX3.out.below hb4)
        have HA4 := hid (HA3.out.below hb4)
        have hf := ext_trans HB3.out hb4
        have d8 := HX4.out.cell 8 (v := .slice pp lb c1) rfl
        have d9 := HX4.out.cell 9 (v := .slice pq le c2) rfl
        have a4 := HA4.out.cell 4 (v := .bool xo) rfl
        have a5 := HA4.out.cell 5 (v := .bool xe) rfl
        clear hb4 HX3 HN3 HA3 HB3
        cases fb with
        | false =>
          obtain rfl : res = false := by rw [HS'.out]; rfl
          clear HS'
          go_wp2_with fail
          go_ret
          exact ⟨rfl, hf⟩
        | true =>
          have hb : (xo = true ∨ xo = false ∧ lb = 0) ∨ (xo = false ∧ ¬ lb = 0) := by cases xo <;> simp <;> omega
          have he : (xe = true ∨ xe = false ∧ le = 0) ∨ (xe = false ∧ ¬ le = 0) := by cases xe <;> simp <;> omega
          rcases hb with (rfl | ⟨rfl, rfl⟩) | ⟨rfl, hb⟩
          · rcases he with (rfl | ⟨rfl, rfl⟩) | ⟨rfl, he⟩
            · obtain rfl : res = true := by rw [HS'.out]; rfl
              clear HS'
              go_wp2_with fail
              go_ret
              exact ⟨rfl, hf⟩
            · obtain rfl : res = true := by rw [HS'.out]; rfl
              clear HS'
              go_wp2_with fail
              go_ret
              exact ⟨rfl, hf⟩
            · have q1 : decide (le = 0) = false := decide_eq_false he
              have q2 : ((le : Int) == 0) = false := beq_eq_false_iff_ne.2 (by omega)
              have q3 : (le == 0) = false := beq_eq_false_iff_ne.2 he
              obtain rfl : res = false := by rw [HS'.out, q1]; rfl
              clear he q1
              clear HS'
              go_wp2_with fail
              go_ret
              exact ⟨rfl, hf⟩
          · rcases he with (rfl | ⟨rfl, rfl⟩) | ⟨rfl, he⟩
            · obtain rfl : res = true := by rw [HS'.out]; rfl
              clear HS'
              go_wp2_with fail
              go_ret
              exact ⟨rfl, hf⟩
            · obtain rfl : res = true := by rw [HS'.out]; rfl
              clear HS'
              go_wp2_with fail
              go_ret
              exact ⟨rfl, hf⟩
            · have q1 : decide (le = 0) = false := decide_eq_false he
              have q2 : ((le : Int) == 0) = false := beq_eq_false_iff_ne.2 (by omega)
              have q3 : (le == 0) = false := beq_eq_false_iff_ne.2 he
              obtain rfl : res = false := by rw [HS'.out, q1]; rfl
              clear he q1
              clear HS'
              go_wp2_with fail
              go_ret
              exact ⟨rfl, hf⟩
          · have q1 : decide (lb = 0) = false := decide_eq_false hb
            have q2 : ((lb : Int) == 0) = false := beq_eq_false_iff_ne.2 (by omega)
            have q3 : (lb == 0) = false := beq_eq_false_iff_ne.2 hb
            obtain rfl : res = false := by rw [HS'.out, q1]; rfl
            clear hb q1 he HS'
            go_wp2_with fail
            go_ret
            exact ⟨rfl, hf⟩
    · have k0 : (0 : Int) = 0 := rfl
      have HS' : Hid (res = (fa && fb && (xo || decide (lb = 0)) && (xe || decide (le = 0)))) := hid (by rw [HS.out]; simp [toBad])
      clear HS
      obtain ⟨W2, hW2⟩ : ∃ W2, W2 = w1.alloc (.cells #[.bool true, .bool false, .bool xa, .bool xb, .bool xo, .bool xe] 130) := ⟨_, rfl⟩
      have hB2 : Below w.heap.size w W2 := by rw [hW2]; exact ext_trans HB1.out (ext_alloc (ext_refl _) _)
      have HX2 := hid (show Blk W2 w.heap.size _ _ by rw [hW2]; exact HBX1.out.alloc _)
      have HN2 := hid (show Blk W2 (w.heap.size + 1) _ _ by rw [hW2]; exact HBN1.out.alloc _)
      have HA2 := hid (show Blk W2 w1.heap.size #[.bool true, .bool false, .bool xa, .bool xb, .bool xo, .bool xe] 130 by rw [hW2]; exact Blk.new _ _ _)
      have HB2 := hid hB2
      have HW2 := hid hW2
      clear hB2 hW2
      go_wp2_with fail
      rw [← HW2.out]
      refine (HA.out _ HB2.out (HN2.out.cell 0 rfl)).mono ?_
      rintro e' w3 ⟨rfl, hb3⟩
      clear d0 d1 d2 d3 d4 d5 d6 d7 d8 d9 dn hl0 hl1 HA
      have HX3 := hid (HX2.out.below hb3)
      have HN3 := hid (HN2.out.below hb3)
      have HA3 := hid (HA2.out.below hb3)
      have HB3 := hid (ext_trans HB2.out hb3)
      have d0 := HX3.out.cell 0 (v := .int .u8 kk) rfl
      have d1 := HX3.out.cell 1 (v := .int .i64 0) rfl
      have d2 := HX3.out.cell 2 (v := .int .u8 aop) rfl
      have d3 := HX3.out.cell 3 (v := .int .i64 an) rfl
      have d4 := HX3.out.cell 4 (v := .slice pa al ca) rfl
      have d5 := HX3.out.cell 5 (v := .int .u8 bop) rfl
      have d6 := HX3.out.cell 6 (v := .int .i64 bn) rfl
      have d7 := HX3.out.cell 7 (v := .slice pb bl cb) rfl
      have d8 := HX3.out.cell 8 (v := .slice pp lb c1) rfl
      have d9 := HX3.out.cell 9 (v := .slice pq le c2) rfl
      have a0 := HA3.out.cell 0 (v := .bool true) rfl
      have a1 := HA3.out.cell 1 (v := .bool false) rfl
      have a2 := HA3.out.cell 2 (v := .bool xa) rfl
      have a3 := HA3.out.cell 3 (v := .bool xb) rfl
      have a4 := HA3.out.cell 4 (v := .bool xo) rfl
      have a5 := HA3.out.cell 5 (v := .bool xe) rfl
      clear hb3 HX2 HN2 HA2 HB2 HW2 HBX1 HBN1 HB1
      cases fa with
      | false =>
        obtain rfl : res = false := by rw [HS'.out]; rfl
        have hf := HB3.out
        clear HB HS'
        go_wp2_with fail
        go_ret
        exact ⟨rfl, hf⟩
      | true =>
        go_wp2_with fail
        refine (HB.out _ HB3.out (HN3.out.cell 0 rfl)).mono ?_
        rintro e' w4 ⟨rfl, hb4⟩
        clear d0 d1 d2 d3 d4 d5 d6 d7 d8 d9 a0 a1 a2 a3 a4 a5 HB
        have HX4 := hid (HX3.out.below hb4)
        have HA4 := hid (HA3.out.below hb4)
        have hf := ext_trans HB3.out hb4
        have d8 := HX4.out.cell 8 (v := .slice pp lb c1) rfl
        have d9 := HX4.out.cell 9 (v := .slice pq le c2) rfl
        have a4 := HA4.out.cell 4 (v := .bool xo) rfl
        have a5 := HA4.out.cell 5 (v := .bool xe) rfl
        clear hb4 HX3 HN3 HA3 HB3
        cases fb with
        | false =>
          obtain rfl : res = false := by rw [HS'.out]; rfl
          clear HS'
          go_wp2_with fail
          go_ret
          exact ⟨rfl, hf⟩
        | true =>
          have hb : (xo = true ∨ xo = false ∧ lb = 0) ∨ (xo = false ∧ ¬ lb = 0) := by cases xo <;> simp <;> omega
          have he : (xe = true ∨ xe = false ∧ le = 0) ∨ (xe = false ∧ ¬ le = 0) := by cases xe <;> simp <;> omega
          rcases hb with (rfl | ⟨rfl, rfl⟩) | ⟨rfl, hb⟩
          · rcases he with (rfl | ⟨rfl, rfl⟩) | ⟨rfl, he⟩
            · obtain rfl : res = true := by rw [HS'.out]; rfl
              clear HS'
              go_wp2_with fail
              go_ret
              exact ⟨rfl, hf⟩
            · obtain rfl : res = true := by rw [HS'.out]; rfl
              clear HS'
              go_wp2_with fail
              go_ret
              exact ⟨rfl, hf⟩
            · have q1 : decide (le = 0) = false := decide_eq_false he
              have q2 : ((le : Int) == 0) = false := beq_eq_false_iff_ne.2 (by omega)
              have q3 : (le == 0) = false := beq_eq_false_iff_ne.2 he
              obtain rfl : res = false := by rw [HS'.out, q1]; rfl
              clear he q1
              clear HS'
              go_wp2_with fail
              go_ret
              exact ⟨rfl, hf⟩
          · rcases he with (rfl | ⟨rfl, rfl⟩) | ⟨rfl, he⟩
            · obtain rfl : res = true := by rw [HS'.out]; rfl
              clear HS'
              go_wp2_with fail
              go_ret
              exact ⟨rfl, hf⟩
            · obtain rfl : res = true := by rw [HS'.out]; rfl
              clear HS'
              go_wp2_with fail
              go_ret
              exact ⟨rfl, hf⟩
            · have q1 : decide (le = 0) = false := decide_eq_false he
              have q2 : ((le : Int) == 0) = false := beq_eq_false_iff_ne.2 (by omega)
              have q3 : (le == 0) = false := beq_eq_false_iff_ne.2 he
              obtain rfl : res = false := by rw [HS'.out, q1]; rfl
              clear he q1
              clear HS'
              go_wp2_with fail
              go_ret
              exact ⟨rfl, hf⟩
          · have q1 : decide (lb = 0) = false := decide_eq_false hb
            have q2 : ((lb : Int) == 0) = false := beq_eq_false_iff_ne.2 (by omega)
            have q3 : (lb == 0) = false := beq_eq_false_iff_ne.2 hb
            obtain rfl : res = false := by rw [HS'.out, q1]; rfl
            clear hb q1 he HS'
            go_wp2_with fail
            go_ret
            exact ⟨rfl, hf⟩
end Go.Proofs.Ytaklfjjkeebheaa
