/-
  Same of statements by the document, walked (printed by tools/gen_sqb.py).
-/
import Derived.Test.YtoeegiaajngpeaaSaA
import Derived.Test.YtoeegiaajngpeaaCpS2
import Derived.Test.YtoeegiaajngpeaaBxT
namespace Go.Proofs.Ytoeegiaajngpeaa
set_option linter.unusedVariables false
set_option linter.unusedSimpArgs false
set_option linter.unusedVariables false
open Go Go.RowKit
set_option maxRecDepth 100000 in
set_option maxHeartbeats 4000000 in
theorem rtsame_any (n : Nat) : ∀ (l l' : List St) (w : World) (v v' : Value), sizeT l < n → RdTx w l v → RdTx w l' v' → ∀ r, (l = l' ↔ r = true) → Calls Try.prog 38 #[v, v'] w fun e' w' => e' = .returned (.bool r) ∧ Below w.heap.size w w' := by
  induction n with
  | zero => intro l l' w v v' h; omega
  | succ n ih =>
  intro l l' w v v' hs hr hr' r hrr
  obtain ⟨a, cap, rfl, hlen, hx⟩ := hr
  obtain ⟨a', cap', rfl, hlen', hx'⟩ := hr'
  have HX := hid hx
  have HX' := hid hx'
  have IH := hid ih
  have HS := hid hs
  have HR := hid hrr
  clear hx hx' ih hs hrr
  by_cases hll : l.length = l'.length
  case neg =>
    have HN := hid (show r = false by cases r; rfl; exact absurd (congrArg List.length (HR.out.2 rfl)) hll)
    have hq : ((l.length : Int) == (l'.length : Int)) = false := by rw [beq_eq_false_iff_ne]; omega
    go_enter Try.func38, Try.ntmps38
    go_wp2_with fail
    go_ret
    exact ⟨ret_bool HN.out.symm, ext_refl _⟩
  rw [← hll]
  have HLL := hid hll
  clear hll
  go_enter Try.func38, Try.ntmps38
  go_wp2_with fail
  go_loopw [5] (fun i wr => ∃ k : Nat, k ≤ l.length ∧ i = .int .i64 k ∧ Hid (l.take k = l'.take k) ∧ Hid (Below w.heap.size w wr)) (fun i _ => l.length - (intOf i).toNat)
  case atStart => exact ⟨0, Nat.zero_le _, rfl, hid rfl, hid (ext_refl _)⟩
  case round =>
    obtain ⟨k, hk, rfl, HF, HB⟩ := hrel
    by_cases hlt : k < l.length
    · have hlt' : k < l'.length := by have := HLL.out; omega
      obtain ⟨b, off, rfl, hrd⟩ := HX.out (by intro h; subst h; simp at hlt)
      obtain ⟨b', off', rfl, hrd'⟩ := HX'.out (by intro h; subst h; simp at hlt')
      obtain ⟨p1, p2, p3, p4, p5, p6, p7, p8, c0, c1, c2, c3, c4, c5, c6, c7, c8, c9, hx⟩ := hrd.get10 k hlt
      obtain ⟨q1, q2, q3, q4, q5, q6, q7, q8, d0, d1, d2, d3, d4, d5, d6, d7, d8, d9, hy⟩ := hrd'.get10 k hlt'
      have hb := HB.out
      have c0 := later hb c0
      have c1 := later hb c1
      have c2 := later hb c2
      have c3 := later hb c3
      have c4 := later hb c4
      have c5 := later hb c5
      have c6 := later hb c6
      have c7 := later hb c7
      have c8 := later hb c8
      have c9 := later hb c9
      have d0 := later hb d0
      have d1 := later hb d1
      have d2 := later hb d2
      have d3 := later hb d3
      have d4 := later hb d4
      have d5 := later hb d5
      have d6 := later hb d6
      have d7 := later hb d7
      have d8 := later hb d8
      have d9 := later hb d9
      have lc := lt_of_cell c0
      have ld := lt_of_cell d0
      have hsz := sizeT_get l k hlt
      have HQ := hid (fun he => take_eq_succ_any hlt hlt' HF.out he)
      have HN : Hid (¬ l[k]'hlt = l'[k]'hlt' → r = false) := hid (fun hne => by cases r; rfl; exact absurd (by have := HR.out.2 rfl; subst this; rfl) hne)
      have HLT := hid hlt
      have j1 : decide ((k : Int) < (l.length : Int)) = true := by rw [decide_eq_true_iff]; omega
      have j1n : decide (k < l.length) = true := decide_eq_true hlt
      have j2 : (0 : Int) ≤ (k : Int) := by omega
      have j2n : (k : Int) < (l.length : Int) := by omega
      have j3 : IntKind.i64.wrap ((k : Int) + 1) = (k : Int) + 1 := IntWalk.i64_in _ (by omega)
      generalize l[k]'hlt = s1 at *
      generalize l'[k]'hlt' = s2 at *
      have hsb := sizeS_body s1
      have hse := sizeS_els s1
      have hss := HS.out
      obtain ⟨-, -, ha, hbb, ho, he⟩ := hx.shape
      obtain ⟨-, -, ha', hb', ho', he'⟩ := hy.shape
      have HIO := hid (fun (W : World) (h : Below w.heap.size w W) => IH.out s1.body s2.body W _ _ (by omega) (ho.below h) (ho'.below h))
      have HIE := hid (fun (W : World) (h : Below w.heap.size w W) => IH.out s1.els s2.els W _ _ (by omega) (he.below h) (he'.below h))
      have HIA := hid (fun (W : World) (h : Below w.heap.size w W) => rsame_any (sizeE s1.a) s1.a s2.a W _ _ _ _ _ _ (Nat.le_refl _) (ha.below h) (ha'.below h))
      have HIB := hid (fun (W : World) (h : Below w.heap.size w W) => rsame_any (sizeE s1.b) s1.b s2.b W _ _ _ _ _ _ (Nat.le_refl _) (hbb.below h) (hb'.below h))
      have heq : s1 = s2 ↔ s1.kind = s2.kind ∧ s1.to = s2.to ∧ s1.a = s2.a ∧ s1.b = s2.b ∧ s1.body = s2.body ∧ s1.els = s2.els := by cases s1; cases s2; simp [St.kind, St.to, St.a, St.b, St.body, St.els]
      rw [heq] at HQ HN
      clear hrd hrd' hx hy hsz hsb hse hss ha hbb ho he ha' hb' ho' he' heq hlt hlt' hb
      go_upto_if 40 with fail
      apply wp_region_inv' (By wr 8 (fun i => [.slice (some ⟨b, off, none⟩) l.length cap, .int .i64 (k : Int), .pointer (some ⟨b, off + k * 10, none⟩), .agg #[.int .u8 s1.kind, .int .i64 s1.to, .int .u8 s1.a.op, .int .i64 s1.a.n, .slice p1 s1.a.args.length p2, .int .u8 s1.b.op, .int .i64 s1.b.n, .slice p3 s1.b.args.length p4, .slice p5 s1.body.length p6, .slice p7 s1.els.length p8], .slice (some ⟨b', off', none⟩) l.length cap', .int .i64 (k : Int), .pointer (some ⟨b', off' + k * 10, none⟩), .agg #[.int .u8 s2.kind, .int .i64 s2.to, .int .u8 s2.a.op, .int .i64 s2.a.n, .slice q1 s2.a.args.length q2, .int .u8 s2.b.op, .int .i64 s2.b.n, .slice q3 s2.b.args.length q4, .slice q5 s2.body.length q6, .slice q7 s2.els.length q8]].getD i undef) (fun c => if c = 0 then #[.int .u8 s1.kind, .int .i64 s1.to, .int .u8 s1.a.op, .int .i64 s1.a.n, .slice p1 s1.a.args.length p2, .int .u8 s1.b.op, .int .i64 s1.b.n, .slice p3 s1.b.args.length p4, .slice p5 s1.body.length p6, .slice p7 s1.els.length p8] else #[.int .u8 s2.kind, .int .i64 s2.to, .int .u8 s2.a.op, .int .i64 s2.a.n, .slice q1 s2.a.args.length q2, .int .u8 s2.b.op, .int .i64 s2.b.n, .slice q3 s2.b.args.length q4, .slice q5 s2.body.length q6, .slice q7 s2.els.length q8]) 42)
      focus (intro vals; simp [putAll, dstOf, Act.put]; rfl)
      case hm => kernel_rfl
      case hd => kernel_rfl
      case hb => kernel_rfl
      case hng => kernel_rfl
      case hsz => kernel_rfl
      case hext => exact fun l l' v w' h H => H.ext h
      case h0 => exact By.start (ext_drew (ext_refl _))
      case hstep =>
        refine ⟨?_, ?_, ?_, ?_, ?_, ?_, ?_, ?_, ?_, ?_, ?_, ?_, trivial⟩
        all_goals (
          intro l vs w' hi hd hJ
          refine ⟨(fun g b h => by cases h), fun _ ρ h1 h2 h3 h4 h5 => ?_⟩)
        · have f := h5 0 (by kernel_rfl)
          have HJ := hid hJ
          clear hJ
          unfold OpY
          go_simp
          exact By.get 0 (by omega) HJ.out
        · have f := h5 5 (by kernel_rfl)
          have HJ := hid hJ
          clear hJ
          unfold OpY
          go_simp
          exact By.get 1 (by omega) HJ.out
        · have f0 := (h4 0 19 (by kernel_rfl) (by kernel_rfl)).trans (hJ.knw 0 (by omega) (hd 0 (by kernel_rfl)))
          have f1 := (h4 1 20 (by kernel_rfl) (by kernel_rfl)).trans (hJ.knw 1 (by omega) (hd 1 (by kernel_rfl)))
          dsimp only [List.getD, List.getElem?_cons_zero, List.getElem?_cons_succ, Option.getD] at f0 f1
          have HJ := hid hJ
          clear hJ
          unfold OpY
          go_simp
          exact By.get 2 (by omega) HJ.out
        · have f2 := (h4 2 21 (by kernel_rfl) (by kernel_rfl)).trans (hJ.knw 2 (by omega) (hd 2 (by kernel_rfl)))
          dsimp only [List.getD, List.getElem?_cons_zero, List.getElem?_cons_succ, Option.getD] at f2
          have x0 := later hJ.mid c0
          have x1 := later hJ.mid c1
          have x2 := later hJ.mid c2
          have x3 := later hJ.mid c3
          have x4 := later hJ.mid c4
          have x5 := later hJ.mid c5
          have x6 := later hJ.mid c6
          have x7 := later hJ.mid c7
          have x8 := later hJ.mid c8
          have x9 := later hJ.mid c9
          have HJ := hid hJ
          clear hJ
          unfold OpY
          go_simp
          exact By.get 3 (by omega) HJ.out
        · have f := h5 1 (by kernel_rfl)
          have HJ := hid hJ
          clear hJ
          unfold OpY
          go_simp
          exact By.get 4 (by omega) HJ.out
        · have f := h5 5 (by kernel_rfl)
          have HJ := hid hJ
          clear hJ
          unfold OpY
          go_simp
          exact By.get 5 (by omega) HJ.out
        · have f4 := (h4 4 23 (by kernel_rfl) (by kernel_rfl)).trans (hJ.knw 4 (by omega) (hd 4 (by kernel_rfl)))
          have f5 := (h4 5 24 (by kernel_rfl) (by kernel_rfl)).trans (hJ.knw 5 (by omega) (hd 5 (by kernel_rfl)))
          dsimp only [List.getD, List.getElem?_cons_zero, List.getElem?_cons_succ, Option.getD] at f4 f5
          have HJ := hid hJ
          clear hJ
          unfold OpY
          go_simp
          exact By.get 6 (by omega) HJ.out
        · have f6 := (h4 6 25 (by kernel_rfl) (by kernel_rfl)).trans (hJ.knw 6 (by omega) (hd 6 (by kernel_rfl)))
          dsimp only [List.getD, List.getElem?_cons_zero, List.getElem?_cons_succ, Option.getD] at f6
          have x0 := later hJ.mid d0
          have x1 := later hJ.mid d1
          have x2 := later hJ.mid d2
          have x3 := later hJ.mid d3
          have x4 := later hJ.mid d4
          have x5 := later hJ.mid d5
          have x6 := later hJ.mid d6
          have x7 := later hJ.mid d7
          have x8 := later hJ.mid d8
          have x9 := later hJ.mid d9
          have HJ := hid hJ
          clear hJ
          unfold OpY
          go_simp
          exact By.get 7 (by omega) HJ.out
        · have HJ := hid hJ
          clear hJ
          unfold OpY
          go_simp
          exact By.alloc rfl 0 (by omega) hi HJ.out
        · have HJ := hid hJ
          clear hJ
          unfold OpY
          go_simp
          exact By.alloc rfl 1 (by omega) hi HJ.out
        · have g1 := hd 8 (by kernel_rfl)
          have g2 := hJ.knw 3 (by omega) (hd 3 (by kernel_rfl))
          obtain ⟨bb, cs, g3, g4, g5, g6, -⟩ := hJ.als 0 (by omega) g1
          obtain ⟨y0, y1, y2, y3, y4, y5, y6, y7, y8, y9, rfl⟩ := arr10 g6
          have f1 := (h4 8 6 (by kernel_rfl) (by kernel_rfl)).trans g3
          have f2 := (h4 3 22 (by kernel_rfl) (by kernel_rfl)).trans g2
          dsimp only [List.getD, List.getElem?_cons_zero, List.getElem?_cons_succ, Option.getD] at f2
          have HH := hid g5
          have z0 := HH.out.free 0
          have z1 := HH.out.free 1
          have z2 := HH.out.free 2
          have z3 := HH.out.free 3
          have z4 := HH.out.free 4
          have z5 := HH.out.free 5
          have z6 := HH.out.free 6
          have z7 := HH.out.free 7
          have z8 := HH.out.free 8
          have z9 := HH.out.free 9
          have r0 := HH.out.cell 0 (v := y0) rfl
          have r1 := HH.out.cell 1 (v := y1) rfl
          have r2 := HH.out.cell 2 (v := y2) rfl
          have r3 := HH.out.cell 3 (v := y3) rfl
          have r4 := HH.out.cell 4 (v := y4) rfl
          have r5 := HH.out.cell 5 (v := y5) rfl
          have r6 := HH.out.cell 6 (v := y6) rfl
          have r7 := HH.out.cell 7 (v := y7) rfl
          have r8 := HH.out.cell 8 (v := y8) rfl
          have r9 := HH.out.cell 9 (v := y9) rfl
          have G3 := hid g3
          clear g2 g3 g5
          have HJ := hid hJ
          clear hJ
          unfold OpY
          go_simp
          exact By.store 0 bb (by omega) rfl g1 G3.out HJ.out
        · have g1 := hd 9 (by kernel_rfl)
          have g2 := hJ.knw 7 (by omega) (hd 7 (by kernel_rfl))
          obtain ⟨bb, cs, g3, g4, g5, g6, -⟩ := hJ.als 1 (by omega) g1
          obtain ⟨y0, y1, y2, y3, y4, y5, y6, y7, y8, y9, rfl⟩ := arr10 g6
          have f1 := (h4 9 7 (by kernel_rfl) (by kernel_rfl)).trans g3
          have f2 := (h4 7 26 (by kernel_rfl) (by kernel_rfl)).trans g2
          dsimp only [List.getD, List.getElem?_cons_zero, List.getElem?_cons_succ, Option.getD] at f2
          have HH := hid g5
          have z0 := HH.out.free 0
          have z1 := HH.out.free 1
          have z2 := HH.out.free 2
          have z3 := HH.out.free 3
          have z4 := HH.out.free 4
          have z5 := HH.out.free 5
          have z6 := HH.out.free 6
          have z7 := HH.out.free 7
          have z8 := HH.out.free 8
          have z9 := HH.out.free 9
          have r0 := HH.out.cell 0 (v := y0) rfl
          have r1 := HH.out.cell 1 (v := y1) rfl
          have r2 := HH.out.cell 2 (v := y2) rfl
          have r3 := HH.out.cell 3 (v := y3) rfl
          have r4 := HH.out.cell 4 (v := y4) rfl
          have r5 := HH.out.cell 5 (v := y5) rfl
          have r6 := HH.out.cell 6 (v := y6) rfl
          have r7 := HH.out.cell 7 (v := y7) rfl
          have r8 := HH.out.cell 8 (v := y8) rfl
          have r9 := HH.out.cell 9 (v := y9) rfl
          have G3 := hid g3
          clear g2 g3 g5
          have HJ := hid hJ
          clear hJ
          unfold OpY
          go_simp
          exact By.store 1 bb (by omega) rfl g1 G3.out HJ.out
      case hdone =>
        intro vals W2 hJ
        obtain ⟨b6, cs6, v6, -, h6, -, qq6⟩ := hJ.als 0 (by omega) rfl
        obtain ⟨b7, cs7, v7, -, h7, -, qq7⟩ := hJ.als 1 (by omega) rfl
        have e6 : cs6 = #[.int .u8 s1.kind, .int .i64 s1.to, .int .u8 s1.a.op, .int .i64 s1.a.n, .slice p1 s1.a.args.length p2, .int .u8 s1.b.op, .int .i64 s1.b.n, .slice p3 s1.b.args.length p4, .slice p5 s1.body.length p6, .slice p7 s1.els.length p8] := qq6 rfl
        have e7 : cs7 = #[.int .u8 s2.kind, .int .i64 s2.to, .int .u8 s2.a.op, .int .i64 s2.a.n, .slice q1 s2.a.args.length q2, .int .u8 s2.b.op, .int .i64 s2.b.n, .slice q3 s2.b.args.length q4, .slice q5 s2.body.length q6, .slice q7 s2.els.length q8] := qq7 rfl
        subst e6; subst e7
        have v6 : vals 8 = .pointer (some ⟨b6, 0, none⟩) := v6
        have v7 : vals 9 = .pointer (some ⟨b7, 0, none⟩) := v7
        rw [v6, v7]
        have HX0 := hid h6
        have HX1 := hid h7
        have HB1 := hid (ext_trans HB.out hJ.mid)
        clear c0 c1 c2 c3 c4 c5 c6 c7 c8 c9 d0 d1 d2 d3 d4 d5 d6 d7 d8 d9 lc ld v6 v7 h6 h7 qq6 qq7 hJ
        by_cases h0 : s1.kind = s2.kind
        case neg =>
          have HRF := hid (HN.out (fun hh => absurd hh.1 h0))
          have b0 : (s1.kind == s2.kind) = false := by rw [beq_eq_false_iff_ne]; exact h0
          have n0 : (s1.kind != s2.kind) = true := by unfold bne; rw [b0]; rfl
          clear h0 HIA HIB HIO HIE HQ HN
          have c0 := HX0.out.cell 0 (v := .int .u8 s1.kind) rfl
          have c1 := HX0.out.cell 1 (v := .int .i64 s1.to) rfl
          have c2 := HX0.out.cell 2 (v := .int .u8 s1.a.op) rfl
          have c3 := HX0.out.cell 3 (v := .int .i64 s1.a.n) rfl
          have c4 := HX0.out.cell 4 (v := .slice p1 s1.a.args.length p2) rfl
          have c5 := HX0.out.cell 5 (v := .int .u8 s1.b.op) rfl
          have c6 := HX0.out.cell 6 (v := .int .i64 s1.b.n) rfl
          have c7 := HX0.out.cell 7 (v := .slice p3 s1.b.args.length p4) rfl
          have c8 := HX0.out.cell 8 (v := .slice p5 s1.body.length p6) rfl
          have c9 := HX0.out.cell 9 (v := .slice p7 s1.els.length p8) rfl
          have d0 := HX1.out.cell 0 (v := .int .u8 s2.kind) rfl
          have d1 := HX1.out.cell 1 (v := .int .i64 s2.to) rfl
          have d2 := HX1.out.cell 2 (v := .int .u8 s2.a.op) rfl
          have d3 := HX1.out.cell 3 (v := .int .i64 s2.a.n) rfl
          have d4 := HX1.out.cell 4 (v := .slice q1 s2.a.args.length q2) rfl
          have d5 := HX1.out.cell 5 (v := .int .u8 s2.b.op) rfl
          have d6 := HX1.out.cell 6 (v := .int .i64 s2.b.n) rfl
          have d7 := HX1.out.cell 7 (v := .slice q3 s2.b.args.length q4) rfl
          have d8 := HX1.out.cell 8 (v := .slice q5 s2.body.length q6) rfl
          have d9 := HX1.out.cell 9 (v := .slice q7 s2.els.length q8) rfl
          have lc := HX0.out.lt
          have ld := HX1.out.lt
          go_wp2_with fail
          go_ret
          exact ⟨ret_bool HRF.out.symm, HB1.out⟩
        by_cases h1 : s1.to = s2.to
        case neg =>
          have HRF := hid (HN.out (fun hh => absurd hh.2.1 h1))
          have b0 : (s1.kind == s2.kind) = true := by rw [beq_iff_eq]; exact h0
          have n0 : (s1.kind != s2.kind) = false := by unfold bne; rw [b0]; rfl
          have b1 : (s1.to == s2.to) = false := by rw [beq_eq_false_iff_ne]; exact h1
          have n1 : (s1.to != s2.to) = true := by unfold bne; rw [b1]; rfl
          clear h0 h1 HIA HIB HIO HIE HQ HN
          have c0 := HX0.out.cell 0 (v := .int .u8 s1.kind) rfl
          have c1 := HX0.out.cell 1 (v := .int .i64 s1.to) rfl
          have c2 := HX0.out.cell 2 (v := .int .u8 s1.a.op) rfl
          have c3 := HX0.out.cell 3 (v := .int .i64 s1.a.n) rfl
          have c4 := HX0.out.cell 4 (v := .slice p1 s1.a.args.length p2) rfl
          have c5 := HX0.out.cell 5 (v := .int .u8 s1.b.op) rfl
          have c6 := HX0.out.cell 6 (v := .int .i64 s1.b.n) rfl
          have c7 := HX0.out.cell 7 (v := .slice p3 s1.b.args.length p4) rfl
          have c8 := HX0.out.cell 8 (v := .slice p5 s1.body.length p6) rfl
          have c9 := HX0.out.cell 9 (v := .slice p7 s1.els.length p8) rfl
          have d0 := HX1.out.cell 0 (v := .int .u8 s2.kind) rfl
          have d1 := HX1.out.cell 1 (v := .int .i64 s2.to) rfl
          have d2 := HX1.out.cell 2 (v := .int .u8 s2.a.op) rfl
          have d3 := HX1.out.cell 3 (v := .int .i64 s2.a.n) rfl
          have d4 := HX1.out.cell 4 (v := .slice q1 s2.a.args.length q2) rfl
          have d5 := HX1.out.cell 5 (v := .int .u8 s2.b.op) rfl
          have d6 := HX1.out.cell 6 (v := .int .i64 s2.b.n) rfl
          have d7 := HX1.out.cell 7 (v := .slice q3 s2.b.args.length q4) rfl
          have d8 := HX1.out.cell 8 (v := .slice q5 s2.body.length q6) rfl
          have d9 := HX1.out.cell 9 (v := .slice q7 s2.els.length q8) rfl
          have lc := HX0.out.lt
          have ld := HX1.out.lt
          go_wp2_with fail
          go_ret
          exact ⟨ret_bool HRF.out.symm, HB1.out⟩
        by_cases h2 : s1.a = s2.a
        case neg =>
          have HRF := hid (HN.out (fun hh => absurd hh.2.2.1 h2))
          have b0 : (s1.kind == s2.kind) = true := by rw [beq_iff_eq]; exact h0
          have n0 : (s1.kind != s2.kind) = false := by unfold bne; rw [b0]; rfl
          have b1 : (s1.to == s2.to) = true := by rw [beq_iff_eq]; exact h1
          have n1 : (s1.to != s2.to) = false := by unfold bne; rw [b1]; rfl
          have HC0 := hid (fun W h => HIA.out W h false (by simp [h2]))
          clear h0 h1 h2 HIA HIB HIO HIE HQ HN
          have c0 := HX0.out.cell 0 (v := .int .u8 s1.kind) rfl
          have c1 := HX0.out.cell 1 (v := .int .i64 s1.to) rfl
          have c2 := HX0.out.cell 2 (v := .int .u8 s1.a.op) rfl
          have c3 := HX0.out.cell 3 (v := .int .i64 s1.a.n) rfl
          have c4 := HX0.out.cell 4 (v := .slice p1 s1.a.args.length p2) rfl
          have c5 := HX0.out.cell 5 (v := .int .u8 s1.b.op) rfl
          have c6 := HX0.out.cell 6 (v := .int .i64 s1.b.n) rfl
          have c7 := HX0.out.cell 7 (v := .slice p3 s1.b.args.length p4) rfl
          have c8 := HX0.out.cell 8 (v := .slice p5 s1.body.length p6) rfl
          have c9 := HX0.out.cell 9 (v := .slice p7 s1.els.length p8) rfl
          have d0 := HX1.out.cell 0 (v := .int .u8 s2.kind) rfl
          have d1 := HX1.out.cell 1 (v := .int .i64 s2.to) rfl
          have d2 := HX1.out.cell 2 (v := .int .u8 s2.a.op) rfl
          have d3 := HX1.out.cell 3 (v := .int .i64 s2.a.n) rfl
          have d4 := HX1.out.cell 4 (v := .slice q1 s2.a.args.length q2) rfl
          have d5 := HX1.out.cell 5 (v := .int .u8 s2.b.op) rfl
          have d6 := HX1.out.cell 6 (v := .int .i64 s2.b.n) rfl
          have d7 := HX1.out.cell 7 (v := .slice q3 s2.b.args.length q4) rfl
          have d8 := HX1.out.cell 8 (v := .slice q5 s2.body.length q6) rfl
          have d9 := HX1.out.cell 9 (v := .slice q7 s2.els.length q8) rfl
          have lc := HX0.out.lt
          have ld := HX1.out.lt
          go_wp2_with fail
          refine (HC0.out _ HB1.out).mono ?_
          rintro e w3 ⟨rfl, hb3⟩
          have HX0 := hid (HX0.out.below hb3)
          have HX1 := hid (HX1.out.below hb3)
          have HB1 := hid (ext_trans HB1.out hb3)
          clear hb3
          have c5 := HX0.out.cell 5 (v := .int .u8 s1.b.op) rfl
          have c6 := HX0.out.cell 6 (v := .int .i64 s1.b.n) rfl
          have c7 := HX0.out.cell 7 (v := .slice p3 s1.b.args.length p4) rfl
          have d5 := HX1.out.cell 5 (v := .int .u8 s2.b.op) rfl
          have d6 := HX1.out.cell 6 (v := .int .i64 s2.b.n) rfl
          have d7 := HX1.out.cell 7 (v := .slice q3 s2.b.args.length q4) rfl
          have lc := HX0.out.lt
          have ld := HX1.out.lt
          go_wp2_with fail
          go_ret
          exact ⟨ret_bool HRF.out.symm, HB1.out⟩
        by_cases h3 : s1.b = s2.b
        case neg =>
          have HRF := hid (HN.out (fun hh => absurd hh.2.2.2.1 h3))
          have b0 : (s1.kind == s2.kind) = true := by rw [beq_iff_eq]; exact h0
          have n0 : (s1.kind != s2.kind) = false := by unfold bne; rw [b0]; rfl
          have b1 : (s1.to == s2.to) = true := by rw [beq_iff_eq]; exact h1
          have n1 : (s1.to != s2.to) = false := by unfold bne; rw [b1]; rfl
          have HC0 := hid (fun W h => HIA.out W h true (by simp [h2]))
          have HC1 := hid (fun W h => HIB.out W h false (by simp [h3]))
          clear h0 h1 h2 h3 HIA HIB HIO HIE HQ HN
          have c0 := HX0.out.cell 0 (v := .int .u8 s1.kind) rfl
          have c1 := HX0.out.cell 1 (v := .int .i64 s1.to) rfl
          have c2 := HX0.out.cell 2 (v := .int .u8 s1.a.op) rfl
          have c3 := HX0.out.cell 3 (v := .int .i64 s1.a.n) rfl
          have c4 := HX0.out.cell 4 (v := .slice p1 s1.a.args.length p2) rfl
          have c5 := HX0.out.cell 5 (v := .int .u8 s1.b.op) rfl
          have c6 := HX0.out.cell 6 (v := .int .i64 s1.b.n) rfl
          have c7 := HX0.out.cell 7 (v := .slice p3 s1.b.args.length p4) rfl
          have c8 := HX0.out.cell 8 (v := .slice p5 s1.body.length p6) rfl
          have c9 := HX0.out.cell 9 (v := .slice p7 s1.els.length p8) rfl
          have d0 := HX1.out.cell 0 (v := .int .u8 s2.kind) rfl
          have d1 := HX1.out.cell 1 (v := .int .i64 s2.to) rfl
          have d2 := HX1.out.cell 2 (v := .int .u8 s2.a.op) rfl
          have d3 := HX1.out.cell 3 (v := .int .i64 s2.a.n) rfl
          have d4 := HX1.out.cell 4 (v := .slice q1 s2.a.args.length q2) rfl
          have d5 := HX1.out.cell 5 (v := .int .u8 s2.b.op) rfl
          have d6 := HX1.out.cell 6 (v := .int .i64 s2.b.n) rfl
          have d7 := HX1.out.cell 7 (v := .slice q3 s2.b.args.length q4) rfl
          have d8 := HX1.out.cell 8 (v := .slice q5 s2.body.length q6) rfl
          have d9 := HX1.out.cell 9 (v := .slice q7 s2.els.length q8) rfl
          have lc := HX0.out.lt
          have ld := HX1.out.lt
          go_wp2_with fail
          refine (HC0.out _ HB1.out).mono ?_
          rintro e w3 ⟨rfl, hb3⟩
          have HX0 := hid (HX0.out.below hb3)
          have HX1 := hid (HX1.out.below hb3)
          have HB1 := hid (ext_trans HB1.out hb3)
          clear hb3
          have c5 := HX0.out.cell 5 (v := .int .u8 s1.b.op) rfl
          have c6 := HX0.out.cell 6 (v := .int .i64 s1.b.n) rfl
          have c7 := HX0.out.cell 7 (v := .slice p3 s1.b.args.length p4) rfl
          have d5 := HX1.out.cell 5 (v := .int .u8 s2.b.op) rfl
          have d6 := HX1.out.cell 6 (v := .int .i64 s2.b.n) rfl
          have d7 := HX1.out.cell 7 (v := .slice q3 s2.b.args.length q4) rfl
          have lc := HX0.out.lt
          have ld := HX1.out.lt
          go_wp2_with fail
          refine (HC1.out _ HB1.out).mono ?_
          rintro e w4 ⟨rfl, hb4⟩
          have HX0 := hid (HX0.out.below hb4)
          have HX1 := hid (HX1.out.below hb4)
          have HB1 := hid (ext_trans HB1.out hb4)
          clear hb4
          have c8 := HX0.out.cell 8 (v := .slice p5 s1.body.length p6) rfl
          have d8 := HX1.out.cell 8 (v := .slice q5 s2.body.length q6) rfl
          have lc := HX0.out.lt
          have ld := HX1.out.lt
          go_wp2_with fail
          go_ret
          exact ⟨ret_bool HRF.out.symm, HB1.out⟩
        by_cases h4 : s1.body = s2.body
        case neg =>
          have HRF := hid (HN.out (fun hh => absurd hh.2.2.2.2.1 h4))
          have b0 : (s1.kind == s2.kind) = true := by rw [beq_iff_eq]; exact h0
          have n0 : (s1.kind != s2.kind) = false := by unfold bne; rw [b0]; rfl
          have b1 : (s1.to == s2.to) = true := by rw [beq_iff_eq]; exact h1
          have n1 : (s1.to != s2.to) = false := by unfold bne; rw [b1]; rfl
          have HC0 := hid (fun W h => HIA.out W h true (by simp [h2]))
          have HC1 := hid (fun W h => HIB.out W h true (by simp [h3]))
          have HC2 := hid (fun W h => HIO.out W h false (by simp [h4]))
          clear h0 h1 h2 h3 h4 HIA HIB HIO HIE HQ HN
          have c0 := HX0.out.cell 0 (v := .int .u8 s1.kind) rfl
          have c1 := HX0.out.cell 1 (v := .int .i64 s1.to) rfl
          have c2 := HX0.out.cell 2 (v := .int .u8 s1.a.op) rfl
          have c3 := HX0.out.cell 3 (v := .int .i64 s1.a.n) rfl
          have c4 := HX0.out.cell 4 (v := .slice p1 s1.a.args.length p2) rfl
          have c5 := HX0.out.cell 5 (v := .int .u8 s1.b.op) rfl
          have c6 := HX0.out.cell 6 (v := .int .i64 s1.b.n) rfl
          have c7 := HX0.out.cell 7 (v := .slice p3 s1.b.args.length p4) rfl
          have c8 := HX0.out.cell 8 (v := .slice p5 s1.body.length p6) rfl
          have c9 := HX0.out.cell 9 (v := .slice p7 s1.els.length p8) rfl
          have d0 := HX1.out.cell 0 (v := .int .u8 s2.kind) rfl
          have d1 := HX1.out.cell 1 (v := .int .i64 s2.to) rfl
          have d2 := HX1.out.cell 2 (v := .int .u8 s2.a.op) rfl
          have d3 := HX1.out.cell 3 (v := .int .i64 s2.a.n) rfl
          have d4 := HX1.out.cell 4 (v := .slice q1 s2.a.args.length q2) rfl
          have d5 := HX1.out.cell 5 (v := .int .u8 s2.b.op) rfl
          have d6 := HX1.out.cell 6 (v := .int .i64 s2.b.n) rfl
          have d7 := HX1.out.cell 7 (v := .slice q3 s2.b.args.length q4) rfl
          have d8 := HX1.out.cell 8 (v := .slice q5 s2.body.length q6) rfl
          have d9 := HX1.out.cell 9 (v := .slice q7 s2.els.length q8) rfl
          have lc := HX0.out.lt
          have ld := HX1.out.lt
          go_wp2_with fail
          refine (HC0.out _ HB1.out).mono ?_
          rintro e w3 ⟨rfl, hb3⟩
          have HX0 := hid (HX0.out.below hb3)
          have HX1 := hid (HX1.out.below hb3)
          have HB1 := hid (ext_trans HB1.out hb3)
          clear hb3
          have c5 := HX0.out.cell 5 (v := .int .u8 s1.b.op) rfl
          have c6 := HX0.out.cell 6 (v := .int .i64 s1.b.n) rfl
          have c7 := HX0.out.cell 7 (v := .slice p3 s1.b.args.length p4) rfl
          have d5 := HX1.out.cell 5 (v := .int .u8 s2.b.op) rfl
          have d6 := HX1.out.cell 6 (v := .int .i64 s2.b.n) rfl
          have d7 := HX1.out.cell 7 (v := .slice q3 s2.b.args.length q4) rfl
          have lc := HX0.out.lt
          have ld := HX1.out.lt
          go_wp2_with fail
          refine (HC1.out _ HB1.out).mono ?_
          rintro e w4 ⟨rfl, hb4⟩
          have HX0 := hid (HX0.out.below hb4)
          have HX1 := hid (HX1.out.below hb4)
          have HB1 := hid (ext_trans HB1.out hb4)
          clear hb4
          have c8 := HX0.out.cell 8 (v := .slice p5 s1.body.length p6) rfl
          have d8 := HX1.out.cell 8 (v := .slice q5 s2.body.length q6) rfl
          have lc := HX0.out.lt
          have ld := HX1.out.lt
          go_wp2_with fail
          refine (HC2.out _ HB1.out).mono ?_
          rintro e w5 ⟨rfl, hb5⟩
          have HX0 := hid (HX0.out.below hb5)
          have HX1 := hid (HX1.out.below hb5)
          have HB1 := hid (ext_trans HB1.out hb5)
          clear hb5
          have c9 := HX0.out.cell 9 (v := .slice p7 s1.els.length p8) rfl
          have d9 := HX1.out.cell 9 (v := .slice q7 s2.els.length q8) rfl
          have lc := HX0.out.lt
          have ld := HX1.out.lt
          go_wp2_with fail
          go_ret
          exact ⟨ret_bool HRF.out.symm, HB1.out⟩
        by_cases h5 : s1.els = s2.els
        case neg =>
          have HRF := hid (HN.out (fun hh => absurd hh.2.2.2.2.2 h5))
          have b0 : (s1.kind == s2.kind) = true := by rw [beq_iff_eq]; exact h0
          have n0 : (s1.kind != s2.kind) = false := by unfold bne; rw [b0]; rfl
          have b1 : (s1.to == s2.to) = true := by rw [beq_iff_eq]; exact h1
          have n1 : (s1.to != s2.to) = false := by unfold bne; rw [b1]; rfl
          have HC0 := hid (fun W h => HIA.out W h true (by simp [h2]))
          have HC1 := hid (fun W h => HIB.out W h true (by simp [h3]))
          have HC2 := hid (fun W h => HIO.out W h true (by simp [h4]))
          have HC3 := hid (fun W h => HIE.out W h false (by simp [h5]))
          clear h0 h1 h2 h3 h4 h5 HIA HIB HIO HIE HQ HN
          have c0 := HX0.out.cell 0 (v := .int .u8 s1.kind) rfl
          have c1 := HX0.out.cell 1 (v := .int .i64 s1.to) rfl
          have c2 := HX0.out.cell 2 (v := .int .u8 s1.a.op) rfl
          have c3 := HX0.out.cell 3 (v := .int .i64 s1.a.n) rfl
          have c4 := HX0.out.cell 4 (v := .slice p1 s1.a.args.length p2) rfl
          have c5 := HX0.out.cell 5 (v := .int .u8 s1.b.op) rfl
          have c6 := HX0.out.cell 6 (v := .int .i64 s1.b.n) rfl
          have c7 := HX0.out.cell 7 (v := .slice p3 s1.b.args.length p4) rfl
          have c8 := HX0.out.cell 8 (v := .slice p5 s1.body.length p6) rfl
          have c9 := HX0.out.cell 9 (v := .slice p7 s1.els.length p8) rfl
          have d0 := HX1.out.cell 0 (v := .int .u8 s2.kind) rfl
          have d1 := HX1.out.cell 1 (v := .int .i64 s2.to) rfl
          have d2 := HX1.out.cell 2 (v := .int .u8 s2.a.op) rfl
          have d3 := HX1.out.cell 3 (v := .int .i64 s2.a.n) rfl
          have d4 := HX1.out.cell 4 (v := .slice q1 s2.a.args.length q2) rfl
          have d5 := HX1.out.cell 5 (v := .int .u8 s2.b.op) rfl
          have d6 := HX1.out.cell 6 (v := .int .i64 s2.b.n) rfl
          have d7 := HX1.out.cell 7 (v := .slice q3 s2.b.args.length q4) rfl
          have d8 := HX1.out.cell 8 (v := .slice q5 s2.body.length q6) rfl
          have d9 := HX1.out.cell 9 (v := .slice q7 s2.els.length q8) rfl
          have lc := HX0.out.lt
          have ld := HX1.out.lt
          go_wp2_with fail
          refine (HC0.out _ HB1.out).mono ?_
          rintro e w3 ⟨rfl, hb3⟩
          have HX0 := hid (HX0.out.below hb3)
          have HX1 := hid (HX1.out.below hb3)
          have HB1 := hid (ext_trans HB1.out hb3)
          clear hb3
          have c5 := HX0.out.cell 5 (v := .int .u8 s1.b.op) rfl
          have c6 := HX0.out.cell 6 (v := .int .i64 s1.b.n) rfl
          have c7 := HX0.out.cell 7 (v := .slice p3 s1.b.args.length p4) rfl
          have d5 := HX1.out.cell 5 (v := .int .u8 s2.b.op) rfl
          have d6 := HX1.out.cell 6 (v := .int .i64 s2.b.n) rfl
          have d7 := HX1.out.cell 7 (v := .slice q3 s2.b.args.length q4) rfl
          have lc := HX0.out.lt
          have ld := HX1.out.lt
          go_wp2_with fail
          refine (HC1.out _ HB1.out).mono ?_
          rintro e w4 ⟨rfl, hb4⟩
          have HX0 := hid (HX0.out.below hb4)
          have HX1 := hid (HX1.out.below hb4)
          have HB1 := hid (ext_trans HB1.out hb4)
          clear hb4
          have c8 := HX0.out.cell 8 (v := .slice p5 s1.body.length p6) rfl
          have d8 := HX1.out.cell 8 (v := .slice q5 s2.body.length q6) rfl
          have lc := HX0.out.lt
          have ld := HX1.out.lt
          go_wp2_with fail
          refine (HC2.out _ HB1.out).mono ?_
          rintro e w5 ⟨rfl, hb5⟩
          have HX0 := hid (HX0.out.below hb5)
          have HX1 := hid (HX1.out.below hb5)
          have HB1 := hid (ext_trans HB1.out hb5)
          clear hb5
          have c9 := HX0.out.cell 9 (v := .slice p7 s1.els.length p8) rfl
          have d9 := HX1.out.cell 9 (v := .slice q7 s2.els.length q8) rfl
          have lc := HX0.out.lt
          have ld := HX1.out.lt
          go_wp2_with fail
          refine (HC3.out _ HB1.out).mono ?_
          rintro e w6 ⟨rfl, hb6⟩
          have HX0 := hid (HX0.out.below hb6)
          have HX1 := hid (HX1.out.below hb6)
          have HB1 := hid (ext_trans HB1.out hb6)
          clear hb6
          have c9 := HX0.out.cell 9 (v := .slice p7 s1.els.length p8) rfl
          have d9 := HX1.out.cell 9 (v := .slice q7 s2.els.length q8) rfl
          have lc := HX0.out.lt
          have ld := HX1.out.lt
          go_wp2_with fail
          go_ret
          exact ⟨ret_bool HRF.out.symm, HB1.out⟩
        have HTK := hid (HQ.out ⟨h0, h1, h2, h3, h4, h5⟩)
        have b0 : (s1.kind == s2.kind) = true := by rw [beq_iff_eq]; exact h0
        have n0 : (s1.kind != s2.kind) = false := by unfold bne; rw [b0]; rfl
        have b1 : (s1.to == s2.to) = true := by rw [beq_iff_eq]; exact h1
        have n1 : (s1.to != s2.to) = false := by unfold bne; rw [b1]; rfl
        have HC0 := hid (fun W h => HIA.out W h true (by simp [h2]))
        have HC1 := hid (fun W h => HIB.out W h true (by simp [h3]))
        have HC2 := hid (fun W h => HIO.out W h true (by simp [h4]))
        have HC3 := hid (fun W h => HIE.out W h true (by simp [h5]))
        clear h0 h1 h2 h3 h4 h5 HIA HIB HIO HIE HQ HN
        have c0 := HX0.out.cell 0 (v := .int .u8 s1.kind) rfl
        have c1 := HX0.out.cell 1 (v := .int .i64 s1.to) rfl
        have c2 := HX0.out.cell 2 (v := .int .u8 s1.a.op) rfl
        have c3 := HX0.out.cell 3 (v := .int .i64 s1.a.n) rfl
        have c4 := HX0.out.cell 4 (v := .slice p1 s1.a.args.length p2) rfl
        have c5 := HX0.out.cell 5 (v := .int .u8 s1.b.op) rfl
        have c6 := HX0.out.cell 6 (v := .int .i64 s1.b.n) rfl
        have c7 := HX0.out.cell 7 (v := .slice p3 s1.b.args.length p4) rfl
        have c8 := HX0.out.cell 8 (v := .slice p5 s1.body.length p6) rfl
        have c9 := HX0.out.cell 9 (v := .slice p7 s1.els.length p8) rfl
        have d0 := HX1.out.cell 0 (v := .int .u8 s2.kind) rfl
        have d1 := HX1.out.cell 1 (v := .int .i64 s2.to) rfl
        have d2 := HX1.out.cell 2 (v := .int .u8 s2.a.op) rfl
        have d3 := HX1.out.cell 3 (v := .int .i64 s2.a.n) rfl
        have d4 := HX1.out.cell 4 (v := .slice q1 s2.a.args.length q2) rfl
        have d5 := HX1.out.cell 5 (v := .int .u8 s2.b.op) rfl
        have d6 := HX1.out.cell 6 (v := .int .i64 s2.b.n) rfl
        have d7 := HX1.out.cell 7 (v := .slice q3 s2.b.args.length q4) rfl
        have d8 := HX1.out.cell 8 (v := .slice q5 s2.body.length q6) rfl
        have d9 := HX1.out.cell 9 (v := .slice q7 s2.els.length q8) rfl
        have lc := HX0.out.lt
        have ld := HX1.out.lt
        go_wp2_with fail
        refine (HC0.out _ HB1.out).mono ?_
        rintro e w3 ⟨rfl, hb3⟩
        have HX0 := hid (HX0.out.below hb3)
        have HX1 := hid (HX1.out.below hb3)
        have HB1 := hid (ext_trans HB1.out hb3)
        clear hb3
        have c5 := HX0.out.cell 5 (v := .int .u8 s1.b.op) rfl
        have c6 := HX0.out.cell 6 (v := .int .i64 s1.b.n) rfl
        have c7 := HX0.out.cell 7 (v := .slice p3 s1.b.args.length p4) rfl
        have d5 := HX1.out.cell 5 (v := .int .u8 s2.b.op) rfl
        have d6 := HX1.out.cell 6 (v := .int .i64 s2.b.n) rfl
        have d7 := HX1.out.cell 7 (v := .slice q3 s2.b.args.length q4) rfl
        have lc := HX0.out.lt
        have ld := HX1.out.lt
        go_wp2_with fail
        refine (HC1.out _ HB1.out).mono ?_
        rintro e w4 ⟨rfl, hb4⟩
        have HX0 := hid (HX0.out.below hb4)
        have HX1 := hid (HX1.out.below hb4)
        have HB1 := hid (ext_trans HB1.out hb4)
        clear hb4
        have c8 := HX0.out.cell 8 (v := .slice p5 s1.body.length p6) rfl
        have d8 := HX1.out.cell 8 (v := .slice q5 s2.body.length q6) rfl
        have lc := HX0.out.lt
        have ld := HX1.out.lt
        go_wp2_with fail
        refine (HC2.out _ HB1.out).mono ?_
        rintro e w5 ⟨rfl, hb5⟩
        have HX0 := hid (HX0.out.below hb5)
        have HX1 := hid (HX1.out.below hb5)
        have HB1 := hid (ext_trans HB1.out hb5)
        clear hb5
        have c9 := HX0.out.cell 9 (v := .slice p7 s1.els.length p8) rfl
        have d9 := HX1.out.cell 9 (v := .slice q7 s2.els.length q8) rfl
        have lc := HX0.out.lt
        have ld := HX1.out.lt
        go_wp2_with fail
        refine (HC3.out _ HB1.out).mono ?_
        rintro e w6 ⟨rfl, hb6⟩
        have HX0 := hid (HX0.out.below hb6)
        have HX1 := hid (HX1.out.below hb6)
        have HB1 := hid (ext_trans HB1.out hb6)
        clear hb6
        have c9 := HX0.out.cell 9 (v := .slice p7 s1.els.length p8) rfl
        have d9 := HX1.out.cell 9 (v := .slice q7 s2.els.length q8) rfl
        have lc := HX0.out.lt
        have ld := HX1.out.lt
        go_wp2_with fail
        go_roundw
        case rel => exact ⟨k + 1, HLT.out, by go_num, HTK, HB1⟩
        case measure => have := HLT.out; simp [intOf]; omega
    · obtain rfl : k = l.length := by omega
      have j1 : decide ((l.length : Int) < (l.length : Int)) = false := by rw [decide_eq_false_iff_not]; omega
      have j1n : decide (l.length < l.length) = false := by simp
      go_wp2_with fail
      go_ret
      exact ⟨ret_bool (HR.out.1 (by have := HF.out; rw [List.take_length, HLL.out, List.take_length] at this; exact this)).symm, HB.out⟩
end Go.Proofs.Ytoeegiaajngpeaa
