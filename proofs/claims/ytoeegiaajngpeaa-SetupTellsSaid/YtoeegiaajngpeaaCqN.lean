/-
  Walks: the document's none, exprs, Depth and Count (printed by tools/gen_cqn.py).
-/
import Derived.Test.YtoeegiaajngpeaaCqC
import Derived.Test.YtoeegiaajngpeaaCoW3
import Derived.Test.YtoeegiaajngpeaaCoCt
namespace Go.Proofs.Ytoeegiaajngpeaa
set_option linter.unusedVariables false
set_option linter.unusedSimpArgs false
set_option linter.unusedVariables false
open Go Go.RowKit
set_option maxRecDepth 100000 in
set_option maxHeartbeats 4000000 in
theorem rnone_any (e : Ex) (w : World) (v0 v1 v2 : Value) (h : RdEx w e v0 v1 v2) :
    Calls Try.prog 64 #[.agg #[v0, v1, v2]] w fun e' w' => e' = .returned (.bool (noneS e)) ∧ Below w.heap.size w w' := by
  obtain ⟨a, cap, rfl, rfl, rfl⟩ := h.shape
  have HN : Hid (noneS e = ((e.op == 0 && e.n == 0) && decide (e.args.length = 0))) := hid (by
    unfold noneS
    congr 1
    cases e.args <;> simp)
  generalize noneS e = q at *
  generalize e.op = op at *
  generalize e.n = n at *
  generalize e.args.length = m at *
  by_cases h1 : op = 0
  · subst h1
    by_cases h2 : n = 0
    · subst h2
      by_cases h3 : m = 0
      · subst h3
        obtain rfl : q = true := HN.out
        go_enter Try.func64, Try.ntmps64
        go_wp2_with fail
        go_ret
        exact ⟨rfl, ext_alloc (ext_refl _) _⟩
      · have g3 : ((m : Int) == 0) = false := by rw [beq_eq_false_iff_ne]; omega
        have hq : q = false := by rw [HN.out, decide_eq_false h3]; rfl
        subst hq
        go_enter Try.func64, Try.ntmps64
        go_wp2_with fail
        go_ret
        exact ⟨rfl, ext_alloc (ext_refl _) _⟩
    · have g2 : (n == 0) = false := beq_eq_false_iff_ne.2 h2
      have hq : q = false := by rw [HN.out, g2]; rfl
      subst hq
      go_enter Try.func64, Try.ntmps64
      go_wp2_with fail
      go_ret
      exact ⟨rfl, ext_alloc (ext_refl _) _⟩
  · have g1 : (op == 0) = false := beq_eq_false_iff_ne.2 h1
    have hq : q = false := by rw [HN.out, g1]; rfl
    subst hq
    go_enter Try.func64, Try.ntmps64
    go_wp2_with fail
    go_ret
    exact ⟨rfl, ext_alloc (ext_refl _) _⟩
set_option maxRecDepth 100000 in
set_option maxHeartbeats 4000000 in
theorem rexprs_any (e : Ex) (w : World) (v0 v1 v2 : Value) (h : RdEx w e v0 v1 v2) (hs : sizeE e ≤ 1000000) :
    Calls Try.prog 62 #[.agg #[v0, v1, v2]] w fun e' w' => e' = .returned (.int .i64 (nodesS e : Nat)) ∧ Below w.heap.size w w' := by
  obtain ⟨a, cap, rfl, rfl, rfl⟩ := h.shape
  have HC := hid (fun (w : World) (h : RdEx w e (.int .u8 e.op) (.int .i64 e.n) (.slice a e.args.length cap)) => rcount_any (sizeE e) e w _ _ _ (Nat.le_refl _) h hs)
  have HR := hid (h.below (ext_alloc (ext_refl w) (.cells #[.int .u8 e.op, .int .i64 e.n, .slice a e.args.length cap] 40)))
  have HN : Hid (nodesS e = if e.op = 0 then 0 else sizeE e) := hid rfl
  generalize nodesS e = q at *
  generalize sizeE e = z at *
  by_cases h1 : e.op = 0
  · have hq : q = 0 := by rw [HN.out, if_pos h1]
    subst hq
    rw [h1] at *
    clear HC HR HN h
    go_enter Try.func62, Try.ntmps62
    go_wp2_with fail
    go_ret
    exact ⟨rfl, ext_alloc (ext_refl _) _⟩
  · have g1 : (e.op == 0) = false := beq_eq_false_iff_ne.2 h1
    have hq : q = z := by rw [HN.out, if_neg h1]
    subst hq
    clear h h1
    go_enter Try.func62, Try.ntmps62
    go_wp2_with fail
    refine (HC.out _ HR.out).mono ?_
    rintro e' w1 ⟨rfl, hb1⟩
    go_wp2_with fail
    go_ret
    exact ⟨rfl, ext_trans (ext_alloc (ext_refl _) _) hb1⟩
set_option maxRecDepth 100000 in
set_option maxHeartbeats 4000000 in
theorem rdepth_any (s : Nat) : ∀ (l : List St) (w : World) (v : Value), sizeT l < s → RdTx w l v → depthT 0 l ≤ 1000000 →
    Calls Try.prog 50 #[v] w fun e' w' => e' = .returned (.int .i64 (depthT 0 l + 1 : Nat)) ∧ Below w.heap.size w w' := by
  induction s with
  | zero => intro l w v h; omega
  | succ s ih =>
  intro l w v hs hr hd
  obtain ⟨a, cap, rfl, hlen, hx⟩ := hr
  have IH := hid ih; clear ih
  have HS := hid hs; clear hs
  have HX := hid hx; clear hx
  have HD := hid hd; clear hd
  go_enter Try.func50, Try.ntmps50
  go_wp2_with fail
  go_loopw [3, 4] (fun n i wr => ∃ k : Nat, k ≤ l.length ∧ i = .int .i64 k ∧ n = .int .i64 (depthT 0 (l.take k) : Nat) ∧ Hid (Below w.heap.size w wr)) (fun _ i _ => l.length - (intOf i).toNat)
  case atStart => exact ⟨0, Nat.zero_le _, rfl, by simp [depthT], hid (ext_refl _)⟩
  case round =>
    obtain ⟨k, hk, rfl, rfl, HB⟩ := hrel
    by_cases hlt : k < l.length
    · obtain ⟨q, off, rfl, hrd⟩ := HX.out (by intro h; subst h; simp at hlt)
      obtain ⟨pa, ca, pb, cb, po, co, pe, ce, e0, e1, e2, e3, e4, e5, e6, e7, e8, e9, hst⟩ := hrd.get10 k hlt
      have hle := sizeT_get l k hlt
      have HLT := hid hlt
      have j1 : decide ((k : Int) < (l.length : Int)) = true := by rw [decide_eq_true_iff]; omega
      have j1n : decide (k < l.length) = true := decide_eq_true hlt
      have j2 : (0 : Int) ≤ (k : Int) := by omega
      have j2n : (k : Int) < (l.length : Int) := by omega
      have j3 : IntKind.i64.wrap ((k : Int) + 1) = (k : Int) + 1 := IntWalk.i64_in _ (by omega)
      have HT := hid (depthT_take l 0 k hlt)
      have hL := depthT_take_le l k hlt
      have HP := hid (depthS_parts (l[k]'hlt))
      have hn0 : depthT 0 (l.take k) ≤ 1000000 := by have := HD.out; omega
      have hl0 : depthS (l[k]'hlt) ≤ 1000000 := by have := HD.out; omega
      generalize hxx : l[k]'hlt = x at *
      clear hxx
      obtain ⟨-, -, ga, gb, g3, g4⟩ := hst.shape
      have hs1 := sizeS_body x
      have hs2 := sizeS_els x
      have hss := HS.out
      have hb := HB.out
      have HD8 := hid e8
      have HD9 := hid e9
      have d8 := later hb e8
      have d9 := later hb e9
      have hbl := lt_of_cell d8
      have HL := hid hl0
      have HIB := hid (fun (W : World) (h : Below w.heap.size w W) (hd : depthT 0 x.body ≤ 1000000) => IH.out x.body W (.slice po x.body.length co) (by omega) (g3.below h) hd)
      have HIE := hid (fun (W : World) (h : Below w.heap.size w W) (hd : depthT 0 x.els ≤ 1000000) => IH.out x.els W (.slice pe x.els.length ce) (by omega) (g4.below h) hd)
      generalize depthT 0 (l.take k) = dk at *
      clear e0 e1 e2 e3 e4 e5 e6 e7 e8 e9 ga gb g3 g4 hst hle hs1 hs2 hss hrd hL hl0 hb
      generalize hnb : x.body.length = nb at *
      generalize hne : x.els.length = ne at *
      by_cases hbo : 0 < nb <;> by_cases hel : 0 < ne
      · have g1 : decide ((0 : Int) < (nb : Int)) = true := decide_eq_true (by omega)
        have g1n : decide (0 < nb) = true := decide_eq_true hbo
        have g2 : decide ((0 : Int) < (ne : Int)) = true := decide_eq_true (by omega)
        have g2n : decide (0 < ne) = true := decide_eq_true hel
        have hS : depthS x = max (depthT 0 x.body + 1) (depthT 0 x.els + 1) := by rw [HP.out, ne_empty (hnb ▸ hbo), ne_empty (hne ▸ hel)]; rfl
        have HD1 := hid (show depthT 0 x.body ≤ 1000000 by have := HL.out; omega)
        have HD2 := hid (show depthT 0 x.els ≤ 1000000 by have := HL.out; omega)
        have hdb : depthT 0 x.body ≤ 1000000 := HD1.out
        have hde : depthT 0 x.els ≤ 1000000 := HD2.out
        have HSS := hid hS
        clear hS hbo hel hnb hne
        generalize depthT 0 x.body = db at *
        generalize depthT 0 x.els = de at *
        go_wp2_with fail
        refine (HIB.out _ HB.out HD1.out).mono ?_
        rintro e' w1 ⟨rfl, hb1⟩
        have HB := hid (ext_trans HB.out hb1)
        have d9 := later HB.out HD9.out
        have hbl := lt_of_cell d9
        clear hb1
        go_wp2_with fail
        all_goals (
            refine (HIE.out _ HB.out HD2.out).mono ?_
            rintro e' w2 ⟨rfl, hb2⟩
            have HB := hid (ext_trans HB.out hb2)
            clear hb2
            go_wp2_with fail)
        all_goals (
            go_roundw
            case rel => exact ⟨k + 1, HLT.out, by go_num, (by rw [HT.out, HSS.out]; first | go_num | (congr 1; omega) | (congr 1; split <;> omega)), HB⟩
            case measure => (have := HLT.out; simp [intOf]; omega))
      · have g1 : decide ((0 : Int) < (nb : Int)) = true := decide_eq_true (by omega)
        have g1n : decide (0 < nb) = true := decide_eq_true hbo
        have g2 : decide ((0 : Int) < (ne : Int)) = false := decide_eq_false (by omega)
        have g2n : decide (0 < ne) = false := decide_eq_false hel
        have hS : depthS x = max (depthT 0 x.body + 1) (0) := by rw [HP.out, ne_empty (hnb ▸ hbo), is_empty (hne ▸ hel)]; rfl
        have HD1 := hid (show depthT 0 x.body ≤ 1000000 by have := HL.out; omega)
        have hdb : depthT 0 x.body ≤ 1000000 := HD1.out
        have HSS := hid hS
        clear hS hbo hel hnb hne
        generalize depthT 0 x.body = db at *
        go_wp2_with fail
        refine (HIB.out _ HB.out HD1.out).mono ?_
        rintro e' w1 ⟨rfl, hb1⟩
        have HB := hid (ext_trans HB.out hb1)
        have d9 := later HB.out HD9.out
        have hbl := lt_of_cell d9
        clear hb1
        go_wp2_with fail
        all_goals (
            go_roundw
            case rel => exact ⟨k + 1, HLT.out, by go_num, (by rw [HT.out, HSS.out]; first | go_num | (congr 1; omega) | (congr 1; split <;> omega)), HB⟩
            case measure => (have := HLT.out; simp [intOf]; omega))
      · have g1 : decide ((0 : Int) < (nb : Int)) = false := decide_eq_false (by omega)
        have g1n : decide (0 < nb) = false := decide_eq_false hbo
        have g2 : decide ((0 : Int) < (ne : Int)) = true := decide_eq_true (by omega)
        have g2n : decide (0 < ne) = true := decide_eq_true hel
        have hS : depthS x = max (0) (depthT 0 x.els + 1) := by rw [HP.out, is_empty (hnb ▸ hbo), ne_empty (hne ▸ hel)]; rfl
        have HD2 := hid (show depthT 0 x.els ≤ 1000000 by have := HL.out; omega)
        have hde : depthT 0 x.els ≤ 1000000 := HD2.out
        have HSS := hid hS
        clear hS hbo hel hnb hne
        generalize depthT 0 x.els = de at *
        go_wp2_with fail
        all_goals (
            refine (HIE.out _ HB.out HD2.out).mono ?_
            rintro e' w2 ⟨rfl, hb2⟩
            have HB := hid (ext_trans HB.out hb2)
            clear hb2
            go_wp2_with fail)
        all_goals (
            go_roundw
            case rel => exact ⟨k + 1, HLT.out, by go_num, (by rw [HT.out, HSS.out]; first | go_num | (congr 1; omega) | (congr 1; split <;> omega)), HB⟩
            case measure => (have := HLT.out; simp [intOf]; omega))
      · have g1 : decide ((0 : Int) < (nb : Int)) = false := decide_eq_false (by omega)
        have g1n : decide (0 < nb) = false := decide_eq_false hbo
        have g2 : decide ((0 : Int) < (ne : Int)) = false := decide_eq_false (by omega)
        have g2n : decide (0 < ne) = false := decide_eq_false hel
        have hS : depthS x = max (0) (0) := by rw [HP.out, is_empty (hnb ▸ hbo), is_empty (hne ▸ hel)]; rfl
        have HSS := hid hS
        clear hS hbo hel hnb hne
        go_wp2_with fail
        all_goals (
            go_roundw
            case rel => exact ⟨k + 1, HLT.out, by go_num, (by rw [HT.out, HSS.out]; first | go_num | (congr 1; omega) | (congr 1; split <;> omega)), HB⟩
            case measure => (have := HLT.out; simp [intOf]; omega))
    · obtain rfl : k = l.length := by omega
      have j1 : decide ((l.length : Int) < (l.length : Int)) = false := by rw [decide_eq_false_iff_not]; omega
      have j1n : decide (l.length < l.length) = false := by simp
      have hn0 : depthT 0 l ≤ 1000000 := HD.out
      go_wp2_with fail
      go_ret
      exact ⟨by simp, HB.out⟩
theorem flatT_append : ∀ (a b : List St), flatT (a ++ b) = flatT a ++ flatT b
  | [], b => by simp [flatT]
  | x :: xs, b => by rw [List.cons_append]; simp only [flatT]; rw [flatT_append xs b, List.append_assoc]
theorem nodes_app (a b : List St) : nodesL (a ++ b) = nodesL a + nodesL b := by unfold nodesL; rw [List.map_append, List.sum_append]
theorem nodes_S (s : St) : nodesL (flatS s) = nodesS s.a + nodesS s.b + nodesL (flatT s.body) + nodesL (flatT s.els) := by
  rw [flatS_is]
  show nodesL ([s] ++ (flatT s.body ++ flatT s.els)) = _
  rw [nodes_app, nodes_app]
  simp [nodesL]
  omega
theorem sizeS_parts (s : St) : sizeS s = 1 + sizeT s.body + sizeT s.els := by cases s; rfl
theorem sizeT_take (l : List St) (k : Nat) (h : k < l.length) : sizeT (l.take (k + 1)) = sizeT (l.take k) + sizeS (l[k]'h) := by rw [← flatT_len, flatT_take l k h, List.length_append, flatT_len, flatS_len]
theorem nodes_le : ∀ (l : List St), (∀ s ∈ l, okE s) → nodesL l ≤ 6000 * l.length
  | [], _ => by simp [nodesL]
  | x :: xs, h => by
    have h1 := h x List.mem_cons_self
    have h2 := nodes_le xs (fun s hs => h s (List.mem_cons_of_mem _ hs))
    have e : nodesL (x :: xs) = nodesS x.a + nodesS x.b + nodesL xs := by simp [nodesL]
    rw [e, List.length_cons]
    have ha : nodesS x.a ≤ 3000 := by unfold nodesS; split; omega; exact h1.1
    have hb : nodesS x.b ≤ 3000 := by unfold nodesS; split; omega; exact h1.2
    omega
set_option maxRecDepth 100000 in
set_option maxHeartbeats 4000000 in
theorem rtcount_any (s : Nat) : ∀ (l : List St) (w : World) (v : Value), sizeT l < s → sizeT l ≤ 3000 → (∀ x ∈ flatT l, okE x) → RdTx w l v →
    Calls Try.prog 49 #[v] w fun e' w' => e' = .returned (.tuple #[.int .i64 (sizeT l : Nat), .int .i64 (nodesL (flatT l) : Nat)]) ∧ Below w.heap.size w w' := by
  induction s with
  | zero => intro l w v h; omega
  | succ s ih =>
  intro l w v hs hm hok hr
  obtain ⟨a, cap, rfl, hlen, hx⟩ := hr
  have IH := hid ih; clear ih
  have HS := hid hs; clear hs
  have HX := hid hx; clear hx
  have HOK := hid hok
  have HM := hid hm
  have hnl : nodesL (flatT l) ≤ 18000000 := by have := nodes_le (flatT l) hok; rw [flatT_len] at this; omega
  have HNL := hid hnl
  clear hok hm hnl
  go_enter Try.func49, Try.ntmps49
  go_wp2_with fail
  go_loopw [4, 5, 6] (fun n c i wr => ∃ (k m4 m5 : Nat), k ≤ l.length ∧ i = .int .i64 k ∧ n = .int .i64 (m4 : Nat) ∧ c = .int .i64 (m5 : Nat) ∧ Hid (m4 = sizeT (l.take k)) ∧ Hid (m5 = nodesL (flatT (l.take k))) ∧ Hid (Below w.heap.size w wr)) (fun _ _ i _ => l.length - (intOf i).toNat)
  case atStart => exact ⟨0, 0, 0, Nat.zero_le _, rfl, rfl, rfl, hid (by simp [sizeT]), hid (by simp [flatT, nodesL]), hid (ext_refl _)⟩
  case round =>
    obtain ⟨k, m4, m5, hk, rfl, rfl, rfl, HM4, HM5, HB⟩ := hrel
    by_cases hlt : k < l.length
    · obtain ⟨q, off, rfl, hrd⟩ := HX.out (by intro h; subst h; simp at hlt)
      obtain ⟨pa, ca, pb, cb, po, co, pe, ce, e0, e1, e2, e3, e4, e5, e6, e7, e8, e9, hst⟩ := hrd.get10 k hlt
      have hle := sizeT_get l k hlt
      have HLT := hid hlt
      have j1 : decide ((k : Int) < (l.length : Int)) = true := by rw [decide_eq_true_iff]; omega
      have j1n : decide (k < l.length) = true := decide_eq_true hlt
      have j2 : (0 : Int) ≤ (k : Int) := by omega
      have j2n : (k : Int) < (l.length : Int) := by omega
      have j3 : IntKind.i64.wrap ((k : Int) + 1) = (k : Int) + 1 := IntWalk.i64_in _ (by omega)
      have hfl := flat_sub hlt
      have HT := hid (sizeT_take l k hlt)
      have HN : Hid (nodesL (flatT (l.take (k + 1))) = nodesL (flatT (l.take k)) + nodesL (flatS (l[k]'hlt))) := hid (by rw [flatT_take l k hlt, nodes_app])
      have hbd : nodesL (flatT (l.take (k + 1))) ≤ nodesL (flatT l) := by
        have e : flatT l = flatT (l.take (k + 1)) ++ flatT (l.drop (k + 1)) := by rw [← flatT_append, List.take_append_drop]
        rw [e, nodes_app]; omega
      have hbs : sizeT (l.take (k + 1)) ≤ sizeT l := by
        have e : flatT l = flatT (l.take (k + 1)) ++ flatT (l.drop (k + 1)) := by rw [← flatT_append, List.take_append_drop]
        rw [← flatT_len, ← flatT_len, e, List.length_append]; omega
      generalize hxx : l[k]'hlt = x at *
      clear hxx
      obtain ⟨-, -, ga, gb, g3, g4⟩ := hst.shape
      have hs1 := sizeS_body x
      have hs2 := sizeS_els x
      have hss := HS.out
      have hb := HB.out
      have HD8 := hid e8
      have HD9 := hid e9
      have d8 := later hb e8
      have d9 := later hb e9
      have hbl := lt_of_cell d8
      have hmi := HM.out
      have hok1 := HOK.out x hfl.2.2
      have hpart := sizeS_parts x
      have hnode := nodes_S x
      have hb4 : m4 + 1 + sizeT x.body + sizeT x.els ≤ 3000 := by have h1 := HT.out; have h2 := HM4.out; rw [← h2, hpart] at h1; omega
      have hb5 : m5 + nodesL (flatT x.body) + nodesL (flatT x.els) + nodesS x.a + nodesS x.b ≤ 18000000 := by have h1 := HN.out; have h2 := HM5.out; have h3 := HNL.out; rw [← h2, hnode] at h1; omega
      have HT' : Hid (sizeT (l.take (k + 1)) = m4 + 1 + sizeT x.body + sizeT x.els) := hid (by rw [HT.out, ← HM4.out, hpart]; omega)
      have HN' : Hid (nodesL (flatT (l.take (k + 1))) = m5 + nodesL (flatT x.body) + nodesL (flatT x.els) + nodesS x.a + nodesS x.b) := hid (by rw [HN.out, ← HM5.out, hnode]; omega)
      have HIB := hid (fun (W : World) (h : Below w.heap.size w W) => IH.out x.body W (.slice po x.body.length co) (by omega) (by omega) (fun y hy => HOK.out y (hfl.1 y hy)) (g3.below h))
      have HIE := hid (fun (W : World) (h : Below w.heap.size w W) => IH.out x.els W (.slice pe x.els.length ce) (by omega) (by omega) (fun y hy => HOK.out y (hfl.2.1 y hy)) (g4.below h))
      have HQA := hid (fun (W : World) (h : Below w.heap.size w W) => rexprs_any x.a W _ _ _ (ga.below h) (by have := hok1.1; omega))
      have HQB := hid (fun (W : World) (h : Below w.heap.size w W) => rexprs_any x.b W _ _ _ (gb.below h) (by have := hok1.2; omega))
      have HD2 := hid e2
      have HD3 := hid e3
      have HD4 := hid e4
      have HD5 := hid e5
      have HD6 := hid e6
      have HD7 := hid e7
      clear e0 e1 e2 e3 e4 e5 e6 e7 e8 e9 ga gb g3 g4 hst hle hs1 hs2 hss hrd hfl HT HN hbd hbs hmi hok1 hpart hnode hb HM4 HM5
      have HM5 := hid hb5
      generalize sizeT x.body = zb at *
      generalize sizeT x.els = ze at *
      generalize nodesL (flatT x.body) = nb at *
      generalize nodesL (flatT x.els) = ne at *
      generalize nodesS x.a = qa at *
      generalize nodesS x.b = qb at *
      go_wp2_with fail
      refine (HIB.out _ HB.out).mono ?_
      rintro e' w1 ⟨rfl, hb1⟩
      have HB := hid (ext_trans HB.out hb1)
      clear d8 d9 hbl hb1
      have d9 := later HB.out HD9.out
      have hbl := lt_of_cell d9
      go_wp2_with fail
      refine (HIE.out _ HB.out).mono ?_
      rintro e' wB ⟨rfl, hb2⟩
      have HB := hid (ext_trans HB.out hb2)
      clear d9 hbl hb2
      have i1 : IntKind.i64.wrap ((m4 : Int) + 1) = (m4 : Int) + 1 := IntWalk.i64_in _ (by omega)
      have i2 : IntKind.i64.wrap ((m4 : Int) + 1 + (zb : Int)) = (m4 : Int) + 1 + (zb : Int) := IntWalk.i64_in _ (by omega)
      have i3 : IntKind.i64.wrap ((m4 : Int) + 1 + (zb : Int) + (ze : Int)) = (m4 : Int) + 1 + (zb : Int) + (ze : Int) := IntWalk.i64_in _ (by omega)
      go_upto_if 60 with fail
      apply wp_region_then 19 (fun i y _ => y = ([.int .i64 (m5 : Int), .int .i64 (nb : Int), .int .i64 ((m5 + nb : Nat) : Int), .int .i64 (ne : Int), .int .i64 ((m5 + nb + ne : Nat) : Int), .slice (some ⟨q, off, none⟩) l.length cap, .int .i64 (k : Int), .pointer (some ⟨q, off + k * 10, none⟩), .pointer (some ⟨q, off + k * 10 + 2, none⟩), .agg #[.int .u8 x.a.op, .int .i64 x.a.n, .slice pa x.a.args.length ca], .int .i64 (qa : Int), .int .i64 ((m5 + nb + ne + qa : Nat) : Int), .slice (some ⟨q, off, none⟩) l.length cap, .int .i64 (k : Int), .pointer (some ⟨q, off + k * 10, none⟩), .pointer (some ⟨q, off + k * 10 + 5, none⟩), .agg #[.int .u8 x.b.op, .int .i64 x.b.n, .slice pb x.b.args.length cb], .int .i64 (qb : Int), .int .i64 ((m5 + nb + ne + qa + qb : Nat) : Int)] : List Value).getD i undef) (fun w' => Below wB.heap.size wB w') (fun w1 w2 => Below w1.heap.size w1 w2)
          (fun i vs w' => match i with
            | 19 => Below wB.heap.size wB w' ∧ vs 18 = .int .i64 ((m5 + nb + ne + qa + qb : Nat) : Int)
            | 20 => Below wB.heap.size wB w' ∧ vs 18 = .int .i64 ((m5 + nb + ne + qa + qb : Nat) : Int) ∧ vs 19 = .int .i64 ((m5 + nb + ne + qa + qb : Nat) : Int)
            | _ => False)
      focus (intro vals; simp [putAll, dstOf, Act.put, List.getD]; rfl)
      case hm => kernel_rfl
      case hd => kernel_rfl
      case hb => kernel_rfl
      case hng => kernel_rfl
      case hsz => kernel_rfl
      case hN => rfl
      case htail => kernel_rfl
      case hstab => intro i y w1 w2 h hb; exact h
      case h0 => exact ext_drew (ext_refl _)
      case hstart => exact fun vs w' hG hV => ⟨hG, hV 18 (by omega)⟩
      case hstepA =>
        refine ⟨?_, ?_, ?_, ?_, ?_, ?_, ?_, ?_, ?_, ?_, ?_, ?_, ?_, ?_, ?_, ?_, ?_, ?_, ?_, trivial⟩
        all_goals (
          refine ⟨(fun g b h => by cases h), fun w' hG hg ρ h1 h2 h3 h4 h5 => ?_⟩
          have hG := hid hG)
        · have f5 : ρ (.tmp 5) = .int .i64 (m5 : Int) := h5 5 (by kernel_rfl)
          clear h4 h5
          unfold OpY
          go_simp
          exact ⟨rfl, hG.out, ext_refl _⟩
        · have f8 : ρ (.tmp 8) = .int .i64 (nb : Int) := h5 8 (by kernel_rfl)
          clear h4 h5
          unfold OpY
          go_simp
          exact ⟨rfl, hG.out, ext_refl _⟩
        · have f41 : ρ (.tmp 41) = .int .i64 (m5 : Int) := h4 0 41 (by kernel_rfl) (by kernel_rfl)
          have f42 : ρ (.tmp 42) = .int .i64 (nb : Int) := h4 1 42 (by kernel_rfl) (by kernel_rfl)
          have s1 : IntKind.i64.wrap (((m5 : Nat) : Int) + (nb : Int)) = ((m5 + nb : Nat) : Int) := (IntWalk.i64_in _ (by have := HM5.out; omega)).trans (by omega)
          clear h4 h5
          unfold OpY
          go_simp
          exact ⟨by first | rfl | (congr 1 <;> omega), hG.out, ext_refl _⟩
        · have f10 : ρ (.tmp 10) = .int .i64 (ne : Int) := h5 10 (by kernel_rfl)
          clear h4 h5
          unfold OpY
          go_simp
          exact ⟨rfl, hG.out, ext_refl _⟩
        · have f43 : ρ (.tmp 43) = .int .i64 ((m5 + nb : Nat) : Int) := h4 2 43 (by kernel_rfl) (by kernel_rfl)
          have f44 : ρ (.tmp 44) = .int .i64 (ne : Int) := h4 3 44 (by kernel_rfl) (by kernel_rfl)
          have s1 : IntKind.i64.wrap (((m5 + nb : Nat) : Int) + (ne : Int)) = ((m5 + nb + ne : Nat) : Int) := (IntWalk.i64_in _ (by have := HM5.out; omega)).trans (by omega)
          clear h4 h5
          unfold OpY
          go_simp
          exact ⟨by first | rfl | (congr 1 <;> omega), hG.out, ext_refl _⟩
        · have f0 : ρ (.tmp 0) = .slice (some ⟨q, off, none⟩) l.length cap := h5 0 (by kernel_rfl)
          clear h4 h5
          unfold OpY
          go_simp
          exact ⟨rfl, hG.out, ext_refl _⟩
        · have f6 : ρ (.tmp 6) = .int .i64 (k : Int) := h5 6 (by kernel_rfl)
          clear h4 h5
          unfold OpY
          go_simp
          exact ⟨rfl, hG.out, ext_refl _⟩
        · have f46 : ρ (.tmp 46) = .slice (some ⟨q, off, none⟩) l.length cap := h4 5 46 (by kernel_rfl) (by kernel_rfl)
          have f47 : ρ (.tmp 47) = .int .i64 (k : Int) := h4 6 47 (by kernel_rfl) (by kernel_rfl)
          clear h4 h5
          unfold OpY
          go_simp
          exact ⟨rfl, hG.out, ext_refl _⟩
        · have f48 : ρ (.tmp 48) = .pointer (some ⟨q, off + k * 10, none⟩) := h4 7 48 (by kernel_rfl) (by kernel_rfl)
          clear h4 h5
          unfold OpY
          go_simp
          exact ⟨rfl, hG.out, ext_refl _⟩
        · have f49 : ρ (.tmp 49) = .pointer (some ⟨q, off + k * 10 + 2, none⟩) := h4 8 49 (by kernel_rfl) (by kernel_rfl)
          have y2 := later (ext_trans HB.out hG.out) HD2.out
          have y3 := later (ext_trans HB.out hG.out) HD3.out
          have y4 := later (ext_trans HB.out hG.out) HD4.out
          clear h4 h5
          unfold OpY
          go_simp
          exact ⟨rfl, hG.out, ext_refl _⟩
        · have f50 : ρ (.tmp 50) = .agg #[.int .u8 x.a.op, .int .i64 x.a.n, .slice pa x.a.args.length ca] := h4 9 50 (by kernel_rfl) (by kernel_rfl)
          clear h4 h5
          unfold OpY
          go_simp
          unfold OpR
          refine (HQA.out _ (ext_trans HB.out hG.out)).mono ?_
          rintro e' w2 ⟨rfl, hb⟩
          exact ⟨_, rfl, rfl, ext_trans hG.out hb, hb⟩
        · have f45 : ρ (.tmp 45) = .int .i64 ((m5 + nb + ne : Nat) : Int) := h4 4 45 (by kernel_rfl) (by kernel_rfl)
          have f51 : ρ (.tmp 51) = .int .i64 (qa : Int) := h4 10 51 (by kernel_rfl) (by kernel_rfl)
          have s1 : IntKind.i64.wrap (((m5 + nb + ne : Nat) : Int) + (qa : Int)) = ((m5 + nb + ne + qa : Nat) : Int) := (IntWalk.i64_in _ (by have := HM5.out; omega)).trans (by omega)
          clear h4 h5
          unfold OpY
          go_simp
          exact ⟨by first | rfl | (congr 1 <;> omega), hG.out, ext_refl _⟩
        · have f0 : ρ (.tmp 0) = .slice (some ⟨q, off, none⟩) l.length cap := h5 0 (by kernel_rfl)
          clear h4 h5
          unfold OpY
          go_simp
          exact ⟨rfl, hG.out, ext_refl _⟩
        · have f6 : ρ (.tmp 6) = .int .i64 (k : Int) := h5 6 (by kernel_rfl)
          clear h4 h5
          unfold OpY
          go_simp
          exact ⟨rfl, hG.out, ext_refl _⟩
        · have f53 : ρ (.tmp 53) = .slice (some ⟨q, off, none⟩) l.length cap := h4 12 53 (by kernel_rfl) (by kernel_rfl)
          have f54 : ρ (.tmp 54) = .int .i64 (k : Int) := h4 13 54 (by kernel_rfl) (by kernel_rfl)
          clear h4 h5
          unfold OpY
          go_simp
          exact ⟨rfl, hG.out, ext_refl _⟩
        · have f55 : ρ (.tmp 55) = .pointer (some ⟨q, off + k * 10, none⟩) := h4 14 55 (by kernel_rfl) (by kernel_rfl)
          clear h4 h5
          unfold OpY
          go_simp
          exact ⟨rfl, hG.out, ext_refl _⟩
        · have f56 : ρ (.tmp 56) = .pointer (some ⟨q, off + k * 10 + 5, none⟩) := h4 15 56 (by kernel_rfl) (by kernel_rfl)
          have y5 := later (ext_trans HB.out hG.out) HD5.out
          have y6 := later (ext_trans HB.out hG.out) HD6.out
          have y7 := later (ext_trans HB.out hG.out) HD7.out
          clear h4 h5
          unfold OpY
          go_simp
          exact ⟨rfl, hG.out, ext_refl _⟩
        · have f57 : ρ (.tmp 57) = .agg #[.int .u8 x.b.op, .int .i64 x.b.n, .slice pb x.b.args.length cb] := h4 16 57 (by kernel_rfl) (by kernel_rfl)
          clear h4 h5
          unfold OpY
          go_simp
          unfold OpR
          refine (HQB.out _ (ext_trans HB.out hG.out)).mono ?_
          rintro e' w2 ⟨rfl, hb⟩
          exact ⟨_, rfl, rfl, ext_trans hG.out hb, hb⟩
        · have f52 : ρ (.tmp 52) = .int .i64 ((m5 + nb + ne + qa : Nat) : Int) := h4 11 52 (by kernel_rfl) (by kernel_rfl)
          have f58 : ρ (.tmp 58) = .int .i64 (qb : Int) := h4 17 58 (by kernel_rfl) (by kernel_rfl)
          have s1 : IntKind.i64.wrap (((m5 + nb + ne + qa : Nat) : Int) + (qb : Int)) = ((m5 + nb + ne + qa + qb : Nat) : Int) := (IntWalk.i64_in _ (by have := HM5.out; omega)).trans (by omega)
          clear h4 h5
          unfold OpY
          go_simp
          exact ⟨by first | rfl | (congr 1 <;> omega), hG.out, ext_refl _⟩
      case hstepB =>
        refine ⟨?_, trivial⟩
        · refine ⟨rfl, fun vs w' hS ρ h1 h2 h3 h4 h5 => ?_⟩
          obtain ⟨hG, q18⟩ := hS
          have f := (h4 18 59 (by kernel_rfl) (by kernel_rfl)).trans q18
          have HhG := hid hG
          have Hq18 := hid q18
          clear h4 h5 hG q18
          unfold OpY
          go_simp
          exact ⟨HhG.out, by simpa [doneV] using Hq18.out, by simp [doneV]⟩
      case hdone =>
        intro vals w' hS
        obtain ⟨hG, -, p19⟩ := hS
        have HG := hid hG
        rw [p19]
        clear hG p19
        go_wp2_with fail
        go_roundw
        case rel => exact ⟨k + 1, m4 + 1 + zb + ze, m5 + nb + ne + qa + qb, HLT.out, by go_num, (by first | rfl | go_num | (congr 1; omega)), rfl, hid HT'.out.symm, hid HN'.out.symm, hid (ext_trans HB.out HG.out)⟩
        case measure => have := HLT.out; simp [intOf]; omega
    · obtain rfl : k = l.length := by omega
      have j1 : decide ((l.length : Int) < (l.length : Int)) = false := by rw [decide_eq_false_iff_not]; omega
      have j1n : decide (l.length < l.length) = false := by simp
      have h4 := HM4.out
      have h5 := HM5.out
      rw [List.take_length] at h4 h5
      subst h4; subst h5
      go_wp2_with fail
      go_ret2
      exact ⟨rfl, HB.out⟩
end Go.Proofs.Ytoeegiaajngpeaa
