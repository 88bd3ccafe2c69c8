/-
  Walks: code.Depth.
-/
import Derived.Test.YtoeegiaajngpeaaCoD
import Derived.Test.YtoeegiaajngpeaaRows
namespace Go.Proofs.Ytoeegiaajngpeaa
set_option linter.unusedVariables false
open Go Go.RowKit

theorem RdSts.get' {w : World} {l : List St} {q off} (h : RdSts w q off l) (n : Nat) (hn : n < l.length) : ∃ a0 a1 a2 b0 b1 b2 p cap p' cap',
    w.cell? ⟨q, off + n * 10, none⟩ = some (.int .u8 l[n].kind) ∧ w.cell? ⟨q, off + n * 10 + 1, none⟩ = some (.int .i64 l[n].to) ∧ w.cell? ⟨q, off + n * 10 + 2, none⟩ = some a0 ∧ w.cell? ⟨q, off + n * 10 + 3, none⟩ = some a1 ∧ w.cell? ⟨q, off + n * 10 + 4, none⟩ = some a2 ∧
      w.cell? ⟨q, off + n * 10 + 5, none⟩ = some b0 ∧ w.cell? ⟨q, off + n * 10 + 6, none⟩ = some b1 ∧ w.cell? ⟨q, off + n * 10 + 7, none⟩ = some b2 ∧ w.cell? ⟨q, off + n * 10 + 8, none⟩ = some (.slice p l[n].body.length cap) ∧ w.cell? ⟨q, off + n * 10 + 9, none⟩ = some (.slice p' l[n].els.length cap') ∧
      RdEx w l[n].a a0 a1 a2 ∧ RdEx w l[n].b b0 b1 b2 ∧ RdTx w l[n].body (.slice p l[n].body.length cap) ∧ RdTx w l[n].els (.slice p' l[n].els.length cap') := by
  obtain ⟨k, t, a0, a1, a2, b0, b1, b2, bo, el, h0, h1, h2, h3, h4, h5, h6, h7, h8, h9, h10⟩ := RdSts.get l h n hn
  obtain ⟨rfl, rfl, g1, g2, g3, g4⟩ := h10.shape
  have g3' := g3
  have g4' := g4
  obtain ⟨p, cap, rfl, -, -⟩ := g3
  obtain ⟨p', cap', rfl, -, -⟩ := g4
  exact ⟨a0, a1, a2, b0, b1, b2, p, cap, p', cap', h0, h1, h2, h3, h4, h5, h6, h7, h8, h9, g1, g2, g3', g4'⟩
theorem depthT_mono : ∀ (l : List St) (n : Nat), n ≤ depthT n l
  | [], n => by unfold depthT; omega
  | x :: xs, n => by unfold depthT; have := depthT_mono xs (max n (depthS x)); omega
theorem depthT_take_le (l : List St) (k : Nat) (h : k < l.length) : depthT 0 (l.take k) ≤ depthT 0 l ∧ depthS l[k] ≤ depthT 0 l := by
  have e : ∀ (a b : List St) (n : Nat), depthT n (a ++ b) = depthT (depthT n a) b := by
    intro a
    induction a with
    | nil => intro b n; rfl
    | cons x xs ih => intro b n; simp only [List.cons_append, depthT]; exact ih b _
  have h1 := e (l.take (k + 1)) (l.drop (k + 1)) 0
  rw [List.take_append_drop, depthT_take l 0 k h] at h1
  have h2 := depthT_mono (l.drop (k + 1)) (max (depthT 0 (l.take k)) (depthS l[k]))
  omega
theorem depthS_parts (s : St) : depthS s = max (if s.body.isEmpty then 0 else depthT 0 s.body + 1) (if s.els.isEmpty then 0 else depthT 0 s.els + 1) := by
  cases s; unfold depthS; rfl

theorem ne_empty {l : List St} (h : 0 < l.length) : l.isEmpty = false := by cases l <;> simp_all
theorem is_empty {l : List St} (h : ¬ 0 < l.length) : l.isEmpty = true := by cases l <;> simp_all
set_option maxRecDepth 100000 in
set_option maxHeartbeats 4000000 in
theorem depth_any (s : Nat) : ∀ (l : List St) (w : World) (v : Value), sizeT l < s → RdTx w l v → depthT 0 l ≤ 1000000 →
    Calls Try.prog 41 #[v] w fun e' w' => e' = .returned (.int .i64 (depthT 0 l + 1 : Nat)) ∧ Below w.heap.size w w' := by
  induction s with
  | zero => intro l w v h; omega
  | succ s ih =>
  intro l w v hs hr hd
  obtain ⟨a, cap, rfl, hlen, hx⟩ := hr
  have IH := hid ih; clear ih
  have HS := hid hs; clear hs
  have HX := hid hx; clear hx
  have HD := hid hd; clear hd
  go_enter Try.func41, Try.ntmps41
  go_wp2_with fail
  go_loopw [3, 8] (fun n i wr => ∃ k : Nat, k ≤ l.length ∧ i = .int .i64 k ∧ n = .int .i64 (depthT 0 (l.take k) : Nat) ∧ Below w.heap.size w wr) (fun _ i _ => l.length - (intOf i).toNat)
  case atStart => exact ⟨0, Nat.zero_le _, rfl, by simp [depthT], ext_refl _⟩
  case round =>
    obtain ⟨k, hk, rfl, rfl, hb⟩ := hrel
    by_cases hlt : k < l.length
    · obtain ⟨q, off, rfl, hrd⟩ := HX.out (by intro h; subst h; simp at hlt)
      obtain ⟨a0, a1, a2, b0, b1, b2, p, c1, p', c2, e0, e1, e2, e3, e4, e5, e6, e7, e8, e9, ga, gb, g3, g4⟩ := hrd.get' k hlt
      obtain ⟨pa, ca, rfl, rfl, rfl⟩ := ga.shape
      obtain ⟨pb, cb, rfl, rfl, rfl⟩ := gb.shape
      clear ga gb
      have d0 := later hb e0
      have d1 := later hb e1
      have d2 := later hb e2
      have d3 := later hb e3
      have d4 := later hb e4
      have d5 := later hb e5
      have d6 := later hb e6
      have d7 := later hb e7
      have d8 := later hb e8
      have d9 := later hb e9
      have hbl := lt_of_cell d0
      have hA := ext_alloc hb (.cells #[.int .u8 l[k].kind, .int .i64 l[k].to, .int .u8 l[k].a.op, .int .i64 l[k].a.n, .slice pa l[k].a.args.length ca, .int .u8 l[k].b.op, .int .i64 l[k].b.n, .slice pb l[k].b.args.length cb, .slice p l[k].body.length c1, .slice p' l[k].els.length c2] 42)
      have HBK := hid (Blk.new wr #[.int .u8 l[k].kind, .int .i64 l[k].to, .int .u8 l[k].a.op, .int .i64 l[k].a.n, .slice pa l[k].a.args.length ca, .int .u8 l[k].b.op, .int .i64 l[k].b.n, .slice pb l[k].b.args.length cb, .slice p l[k].body.length c1, .slice p' l[k].els.length c2] 42)
      have HG3 := hid (g3.below hA)
      have HG4 := hid (g4.below hA)
      have hle := sizeT_get l k hlt
      have hs1 := sizeS_body l[k]
      have hs2 := sizeS_els l[k]
      have HB1 := hid (show sizeT l[k].body < s by have := HS.out; omega)
      have HB2 := hid (show sizeT l[k].els < s by have := HS.out; omega)
      have HT := hid (depthT_take l 0 k hlt)
      have hL := depthT_take_le l k hlt
      have HP := hid (depthS_parts l[k])
      have hn0 : depthT 0 (l.take k) ≤ 1000000 := by have := HD.out; omega
      have HL := hid (show depthS l[k] ≤ 1000000 by have := HD.out; omega)
      clear e0 e1 e2 e3 e4 e5 e6 e7 e8 e9 g3 g4 hle hs1 hs2 hL hrd
      generalize hnb : l[k].body.length = nb at *
      generalize hne : l[k].els.length = ne at *
      by_cases hbo : 0 < nb <;> by_cases hel : 0 < ne
      · have g1 : (0 : Int) < (nb : Int) := by omega
        have g3 : 0 < nb := hbo
        have g2 : (0 : Int) < (ne : Int) := by omega
        have g4 : 0 < ne := hel
        have hS : depthS l[k] = max (depthT 0 l[k].body + 1) (depthT 0 l[k].els + 1) := by
          rw [HP.out, ne_empty (hnb ▸ hbo), ne_empty (hne ▸ hel)]; rfl
        have hD1 : depthT 0 l[k].body ≤ 1000000 := by have := HL.out; omega
        have hD2 : depthT 0 l[k].els ≤ 1000000 := by have := HL.out; omega
        have HSS := hid hS
        clear hS hbo hel hnb hne
        go_wp2_with fail
        refine (IH.out l[k].body _ _ HB1.out HG3.out hD1).mono ?_
        rintro e' w1 ⟨rfl, hb1⟩
        have c9 := later hb1 (HBK.out.cell 9 (v := .slice p' ne c2) rfl)
        have HG5 := hid (HG4.out.below hb1)
        have hA := ext_trans hA hb1
        go_wp2_with fail
        all_goals (
          refine (IH.out l[k].els _ _ HB2.out HG5.out hD2).mono ?_
          rintro e' w2 ⟨rfl, hb2⟩
          have hA := ext_trans hA hb2
          go_wp2_with fail)
        all_goals (
          go_roundw
          case rel => exact ⟨k + 1, hlt, by go_num, (by rw [HT.out, HSS.out]; first | go_num | (congr 1; omega)), hA⟩
          case measure => (simp [intOf]; omega))
      · have g1 : (0 : Int) < (nb : Int) := by omega
        have g3 : 0 < nb := hbo
        have g2 : decide ((0 : Int) < (ne : Int)) = false := by rw [decide_eq_false_iff_not]; omega
        have g4 : decide (0 < ne) = false := decide_eq_false hel
        have hS : depthS l[k] = max (depthT 0 l[k].body + 1) (0) := by
          rw [HP.out, ne_empty (hnb ▸ hbo), is_empty (hne ▸ hel)]; rfl
        have hD1 : depthT 0 l[k].body ≤ 1000000 := by have := HL.out; omega
        have HSS := hid hS
        clear hS hbo hel hnb hne
        go_wp2_with fail
        refine (IH.out l[k].body _ _ HB1.out HG3.out hD1).mono ?_
        rintro e' w1 ⟨rfl, hb1⟩
        have c9 := later hb1 (HBK.out.cell 9 (v := .slice p' ne c2) rfl)
        have HG5 := hid (HG4.out.below hb1)
        have hA := ext_trans hA hb1
        go_wp2_with fail
        all_goals (
          go_roundw
          case rel => exact ⟨k + 1, hlt, by go_num, (by rw [HT.out, HSS.out]; first | go_num | (congr 1; omega)), hA⟩
          case measure => (simp [intOf]; omega))
      · have g1 : decide ((0 : Int) < (nb : Int)) = false := by rw [decide_eq_false_iff_not]; omega
        have g3 : decide (0 < nb) = false := decide_eq_false hbo
        have g2 : (0 : Int) < (ne : Int) := by omega
        have g4 : 0 < ne := hel
        have hS : depthS l[k] = max (0) (depthT 0 l[k].els + 1) := by
          rw [HP.out, is_empty (hnb ▸ hbo), ne_empty (hne ▸ hel)]; rfl
        have hD2 : depthT 0 l[k].els ≤ 1000000 := by have := HL.out; omega
        have HSS := hid hS
        clear hS hbo hel hnb hne
        go_wp2_with fail
        refine (IH.out l[k].els _ _ HB2.out HG4.out hD2).mono ?_
        rintro e' w2 ⟨rfl, hb2⟩
        have hA := ext_trans hA hb2
        go_wp2_with fail
        all_goals (
          go_roundw
          case rel => exact ⟨k + 1, hlt, by go_num, (by rw [HT.out, HSS.out]; first | go_num | (congr 1; omega)), hA⟩
          case measure => (simp [intOf]; omega))
      · have g1 : decide ((0 : Int) < (nb : Int)) = false := by rw [decide_eq_false_iff_not]; omega
        have g3 : decide (0 < nb) = false := decide_eq_false hbo
        have g2 : decide ((0 : Int) < (ne : Int)) = false := by rw [decide_eq_false_iff_not]; omega
        have g4 : decide (0 < ne) = false := decide_eq_false hel
        have hS : depthS l[k] = max (0) (0) := by
          rw [HP.out, is_empty (hnb ▸ hbo), is_empty (hne ▸ hel)]; rfl
        have HSS := hid hS
        clear hS hbo hel hnb hne
        go_wp2_with fail
        all_goals (
          go_roundw
          case rel => exact ⟨k + 1, hlt, by go_num, (by rw [HT.out, HSS.out]; first | go_num | (congr 1; omega)), hA⟩
          case measure => (simp [intOf]; omega))
    · obtain rfl : k = l.length := by omega
      have hn0 : depthT 0 l ≤ 1000000 := HD.out
      go_wp2_with fail
      go_ret
      exact ⟨by simp, hb⟩
end Go.Proofs.Ytoeegiaajngpeaa
