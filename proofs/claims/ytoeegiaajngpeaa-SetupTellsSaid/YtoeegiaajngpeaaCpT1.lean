/-
  Copies of statements by the document, walked: by append, one by one.
-/
import Derived.Test.YtoeegiaajngpeaaCpD
namespace Go.Proofs.Ytoeegiaajngpeaa
set_option linter.unusedVariables false
set_option linter.unusedSimpArgs false
set_option linter.unusedVariables false
open Go Go.RowKit
def CpV (s : St) (v : Value) (bx lo : Nat) (va vb vo ve : Value) : Nat → Value → World → Prop
  | 0, x, _ => x = v
  | 1, x, _ => x = .pointer (some ⟨bx, 0, none⟩)
  | 2, x, _ => x = .int .u8 s.kind
  | 3, x, _ => x = .pointer (some ⟨bx, 1, none⟩)
  | 4, x, _ => x = .int .i64 s.to
  | 5, x, _ => x = .pointer (some ⟨bx, 2, none⟩)
  | 6, x, _ => x = va
  | 7, x, w => OwnE s.a lo x w
  | 8, x, _ => x = .pointer (some ⟨bx, 5, none⟩)
  | 9, x, _ => x = vb
  | 10, x, w => OwnE s.b lo x w
  | 11, x, _ => x = .pointer (some ⟨bx, 8, none⟩)
  | 12, x, _ => x = vo
  | 13, x, w => OwnT s.body lo x w
  | 14, x, _ => x = .pointer (some ⟨bx, 9, none⟩)
  | 15, x, _ => x = ve
  | 16, x, w => OwnT s.els lo x w
  | 17, x, w => OwnS s lo x w
  | 18, x, w => OwnB s lo x w 42
  | _ + 19, _, _ => True
theorem CpV.stab {s : St} {v : Value} {bx lo : Nat} {va vb vo ve : Value} {i : Nat} {x : Value} {w1 w2 : World} (h : CpV s v bx lo va vb vo ve i x w1) (hb : Below w1.heap.size w1 w2) : CpV s v bx lo va vb vo ve i x w2 := by
  match i, h with
  | 7, h => exact OwnE.below hb h
  | 10, h => exact OwnE.below hb h
  | 13, h => exact OwnT.below hb h
  | 16, h => exact OwnT.below hb h
  | 17, h => exact OwnS.below hb h
  | 18, h => exact OwnB.below hb h
  | 0, h => exact h
  | 1, h => exact h
  | 2, h => exact h
  | 3, h => exact h
  | 4, h => exact h
  | 5, h => exact h
  | 6, h => exact h
  | 8, h => exact h
  | 9, h => exact h
  | 11, h => exact h
  | 12, h => exact h
  | 14, h => exact h
  | 15, h => exact h
  | n + 19, h => trivial
/-- From state to state behind the calls. -/
def CpS (w0 W1 : World) (B : Nat) (l : List St) (k : Nat) (s : St) (v : Value) : Nat → (Nat → Value) → World → Prop
  | 19, vs, w => Below W1.heap.size W1 w ∧ vs 0 = v ∧ OwnB s W1.heap.size (vs 18) w 42
  | 20, vs, w => Below w0.heap.size w0 w ∧ ∃ news, RowG RSt 10 42 w B l (k + 1) (vs 19) news
  | 21, vs, w => Below w0.heap.size w0 w ∧ ∃ news, RowG RSt 10 42 w B l (k + 1) (vs 20) news
  | _, _, _ => False
set_option maxRecDepth 100000 in
set_option maxHeartbeats 4000000 in
theorem rtcopy_any (s : Nat) : ∀ (l : List St) (w : World) (v : Value), sizeT l ≤ s → sizeT l ≤ 3000 → (∀ x ∈ flatT l, okE x) → RdTx w l v →
    Calls Try.prog 22 #[v] w (CopyG (fun w v => RdTx w l v) w) := by
  induction s with
  | zero =>
    intro l w v hs hm hok hr
    have hl : l = [] := by cases l with
      | nil => rfl
      | cons x xs => exfalso; unfold sizeT at hs; cases x; simp [sizeS] at hs
    subst hl
    obtain ⟨a, cap, rfl, -, -⟩ := hr
    go_enter Try.func22, Try.ntmps22
    go_wp2_with fail
    go_loopw [3, 4] (fun x i wr => x = .slice none 0 0 ∧ i = .int .i64 0 ∧ Below w.heap.size w wr) (fun _ _ _ => 0)
    case atStart => exact ⟨rfl, rfl, ext_refl _⟩
    case round =>
      obtain ⟨rfl, rfl, hb⟩ := hrel
      go_wp2_with fail
      go_ret
      exact ⟨_, rfl, hb, fun w'' _ => ⟨none, 0, rfl, by simp, fun h => absurd rfl h⟩⟩
  | succ s ih =>
  intro l w v hs hm hok hr
  obtain ⟨a, cap, rfl, hlen, hx⟩ := hr
  have IH := hid ih
  have HX := hid hx
  have HOK := hid hok
  have HLEN := hid hlen
  have HM := hid hm
  have HS := hid hs
  clear ih hx hok hm hs
  obtain ⟨i0, hi0, hz0, hz1, hz2⟩ := info_parts infoStmt
  go_enter Try.func22, Try.ntmps22
  go_wp2_with fail
  go_loopw [3, 4] (fun x i wr => ∃ (k : Nat) (v : Value) (news : List Value), k ≤ l.length ∧ i = .int .i64 k ∧ x = v ∧ Hid (RowG RSt 10 42 wr w.heap.size l k v news) ∧ Below w.heap.size w wr) (fun _ i _ => l.length - (intOf i).toNat)
  case atStart => exact ⟨0, .slice none 0 0, [], Nat.zero_le _, rfl, rfl, rowG_nil (Nat.le_refl _), ext_refl _⟩
  case round =>
    obtain ⟨k, v, news, hk, rfl, rfl, HROW, hb⟩ := hrel
    obtain ⟨vA, vc, rfl⟩ := rowG_slice HROW.out
    have hlen := HLEN.out
    by_cases hlt : k < l.length
    · obtain ⟨b, off, rfl, hrd⟩ := HX.out (by intro h; subst h; simp at hlt)
      obtain ⟨pa, ca, pb, cb, po, co, pe, ce, d0, d1, d2, d3, d4, d5, d6, d7, d8, d9, hst⟩ := hrd.get10 k hlt
      have hfl := flat_sub hlt
      have hsz := sizeT_get l k hlt
      have lc := lt_of_cell d0
      have HST := hid (hst.below hb)
      have HB := hid hb
      have q0 := later hb d0
      have q1 := later hb d1
      have q2 := later hb d2
      have q3 := later hb d3
      have q4 := later hb d4
      have q5 := later hb d5
      have q6 := later hb d6
      have q7 := later hb d7
      have q8 := later hb d8
      have q9 := later hb d9
      have hll : l.length ≤ 3000 := by have := sizeT_length l; have := HM.out; omega
      have j1 : decide ((k : Int) < (l.length : Int)) = true := by rw [decide_eq_true_iff]; omega
      have j1n : decide (k < l.length) = true := decide_eq_true hlt
      have j3 : IntKind.i64.wrap ((k : Int) + 1) = (k : Int) + 1 := IntWalk.i64_in _ (by omega)
      have HLT := hid hlt
      have HLS : ∃ s', l[k]'hlt = s' := ⟨_, rfl⟩
      obtain ⟨s', hs'⟩ := HLS
      rw [hs'] at d0 d1 d2 d3 d4 d5 d6 d7 d8 d9 HST hfl hsz q0 q1 q2 q3 q4 q5 q6 q7 q8 q9 hst
      have HS' := hid hs'
      have hok1 := HOK.out s' hfl.2.2
      have hsb := sizeS_body s'
      have hse := sizeS_els s'
      have hsi := HS.out
      have hmi := HM.out
      have HBODY := hid (fun (w' : World) (v' : Value) (h : RdTx w' s'.body v') => IH.out s'.body w' v' (by omega) (by omega) (fun x hx => HOK.out x (hfl.1 x hx)) h)
      have HELS := hid (fun (w' : World) (v' : Value) (h : RdTx w' s'.els v') => IH.out s'.els w' v' (by omega) (by omega) (fun x hx => HOK.out x (hfl.2.1 x hx)) h)
      have HEA := hid (fun (w' : World) (v0 v1 v2 : Value) (h : RdEx w' s'.a v0 v1 v2) => rcopy_any (sizeE s'.a) s'.a w' v0 v1 v2 (Nat.le_refl _) (by have := hok1.1; omega) h)
      have HEB := hid (fun (w' : World) (v0 v1 v2 : Value) (h : RdEx w' s'.b v0 v1 v2) => rcopy_any (sizeE s'.b) s'.b w' v0 v1 v2 (Nat.le_refl _) (by have := hok1.2; omega) h)
      have hm1 : k + 1 ≤ maxLen := by unfold maxLen; omega
      have hm2 : (k + 1) * 144 ≤ 140737488355328 := by omega
      have HM1 := hid hm1
      have HM2 := hid hm2
      clear d0 d1 d2 d3 d4 d5 d6 d7 d8 d9 hst hrd hfl hsz hok1 hsb hse hsi hmi hm1 hm2 hs' hll hb
      go_wp2_with fail
      obtain ⟨W1, hW1⟩ : ∃ W1, W1 = wr.alloc (.cells #[.int .u8 s'.kind, .int .i64 s'.to, .int .u8 s'.a.op, .int .i64 s'.a.n, .slice pa s'.a.args.length ca, .int .u8 s'.b.op, .int .i64 s'.b.n, .slice pb s'.b.args.length cb, .slice po s'.body.length co, .slice pe s'.els.length ce] 42) := ⟨_, rfl⟩
      rw [← hW1]
      have hx1 : Blk W1 wr.heap.size #[.int .u8 s'.kind, .int .i64 s'.to, .int .u8 s'.a.op, .int .i64 s'.a.n, .slice pa s'.a.args.length ca, .int .u8 s'.b.op, .int .i64 s'.b.n, .slice pb s'.b.args.length cb, .slice po s'.body.length co, .slice pe s'.els.length ce] 42 := by rw [hW1]; exact Blk.new _ _ _
      have HB1 : Hid (Below wr.heap.size wr W1) := hid (by rw [hW1]; exact ext_alloc (ext_refl _) _)
      have HST1 := hid (HST.out.below HB1.out)
      have HX1 := hid hx1
      have HSZ : Hid (W1.heap.size = wr.heap.size + 1) := hid (by rw [hW1]; simp)
      clear hW1 hx1 q0 q1 q2 q3 q4 q5 q6 q7 q8 q9
      obtain ⟨-, -, hsa, hsb, hso, hse⟩ := HST1.out.shape
      have HSA := hid hsa
      have HSB := hid hsb
      have HSO := hid hso
      have HSE := hid hse
      clear hsa hsb hso hse
      apply wp_region_then 19 (CpV s' (.slice vA k vc) wr.heap.size W1.heap.size (.agg #[.int .u8 s'.a.op, .int .i64 s'.a.n, .slice pa s'.a.args.length ca]) (.agg #[.int .u8 s'.b.op, .int .i64 s'.b.n, .slice pb s'.b.args.length cb]) (.slice po s'.body.length co) (.slice pe s'.els.length ce)) (fun w' => Below W1.heap.size W1 w') (fun w1 w2 => Below w1.heap.size w1 w2) (CpS w W1 w.heap.size l k s' (.slice vA k vc))
      focus (intro vals; simp [putAll, dstOf, Act.put, List.getD]; rfl)
      case hm => kernel_rfl
      case hd => kernel_rfl
      case hb => kernel_rfl
      case hng => kernel_rfl
      case hsz => kernel_rfl
      case hN => rfl
      case htail => kernel_rfl
      case hstab => exact fun i x w1 w2 h hb => h.stab hb
      case h0 => exact ext_drew (ext_refl _)
      case hstart => exact fun vs w' hG hV => ⟨hG, hV 0 (by omega), hV 18 (by omega)⟩
      case hstepA =>
        refine ⟨?_, ?_, ?_, ?_, ?_, ?_, ?_, ?_, ?_, ?_, ?_, ?_, ?_, ?_, ?_, ?_, ?_, ?_, ?_, trivial⟩
        all_goals (
          refine ⟨(fun g b h => by cases h), fun w' hG hg ρ h1 h2 h3 h4 h5 => ?_⟩
          have hG := hid hG)
        · have f3 := h5 3 (by kernel_rfl)
          clear h4 h5
          unfold OpY
          go_simp
          exact ⟨rfl, hG.out, ext_refl _⟩
        · have f5 := h5 5 (by kernel_rfl)
          clear h4 h5
          unfold OpY
          go_simp
          exact ⟨rfl, hG.out, ext_refl _⟩
        · have f17 : ρ (.tmp 17) = .pointer (some ⟨wr.heap.size, 0, none⟩) := h4 1 17 (by kernel_rfl) (by kernel_rfl)
          have c0 := later hG.out (HX1.out.cell 0 rfl)
          clear h4 h5
          unfold OpY
          go_simp
          exact ⟨rfl, hG.out, ext_refl _⟩
        · have f5 := h5 5 (by kernel_rfl)
          clear h4 h5
          unfold OpY
          go_simp
          exact ⟨rfl, hG.out, ext_refl _⟩
        · have f19 : ρ (.tmp 19) = .pointer (some ⟨wr.heap.size, 1, none⟩) := h4 3 19 (by kernel_rfl) (by kernel_rfl)
          have c1 := later hG.out (HX1.out.cell 1 rfl)
          clear h4 h5
          unfold OpY
          go_simp
          exact ⟨rfl, hG.out, ext_refl _⟩
        · have f5 := h5 5 (by kernel_rfl)
          clear h4 h5
          unfold OpY
          go_simp
          exact ⟨rfl, hG.out, ext_refl _⟩
        · have f21 : ρ (.tmp 21) = .pointer (some ⟨wr.heap.size, 2, none⟩) := h4 5 21 (by kernel_rfl) (by kernel_rfl)
          have c2 := later hG.out (HX1.out.cell 2 rfl)
          have c3 := later hG.out (HX1.out.cell 3 rfl)
          have c4 := later hG.out (HX1.out.cell 4 rfl)
          clear h4 h5
          unfold OpY
          go_simp
          exact ⟨rfl, hG.out, ext_refl _⟩
        · have f22 : ρ (.tmp 22) = .agg #[.int .u8 s'.a.op, .int .i64 s'.a.n, .slice pa s'.a.args.length ca] := h4 6 22 (by kernel_rfl) (by kernel_rfl)
          clear h4 h5
          unfold OpY
          go_simp
          unfold OpR
          refine (HEA.out _ _ _ _ (HSA.out.below hG.out)).mono ?_
          rintro e' w2 ⟨a3, c3, rfl, hb2, hcp⟩
          exact ⟨_, rfl, ⟨a3, c3, rfl, (ext_trans hG.out hb2).size, fun w'' h => hcp w'' (h.sub hG.out.size (Nat.le_refl _))⟩, ext_trans hG.out hb2, hb2⟩
        · have f5 := h5 5 (by kernel_rfl)
          clear h4 h5
          unfold OpY
          go_simp
          exact ⟨rfl, hG.out, ext_refl _⟩
        · have f24 : ρ (.tmp 24) = .pointer (some ⟨wr.heap.size, 5, none⟩) := h4 8 24 (by kernel_rfl) (by kernel_rfl)
          have c5 := later hG.out (HX1.out.cell 5 rfl)
          have c6 := later hG.out (HX1.out.cell 6 rfl)
          have c7 := later hG.out (HX1.out.cell 7 rfl)
          clear h4 h5
          unfold OpY
          go_simp
          exact ⟨rfl, hG.out, ext_refl _⟩
        · have f25 : ρ (.tmp 25) = .agg #[.int .u8 s'.b.op, .int .i64 s'.b.n, .slice pb s'.b.args.length cb] := h4 9 25 (by kernel_rfl) (by kernel_rfl)
          clear h4 h5
          unfold OpY
          go_simp
          unfold OpR
          refine (HEB.out _ _ _ _ (HSB.out.below hG.out)).mono ?_
          rintro e' w2 ⟨a3, c3, rfl, hb2, hcp⟩
          exact ⟨_, rfl, ⟨a3, c3, rfl, (ext_trans hG.out hb2).size, fun w'' h => hcp w'' (h.sub hG.out.size (Nat.le_refl _))⟩, ext_trans hG.out hb2, hb2⟩
        · have f5 := h5 5 (by kernel_rfl)
          clear h4 h5
          unfold OpY
          go_simp
          exact ⟨rfl, hG.out, ext_refl _⟩
        · have f27 : ρ (.tmp 27) = .pointer (some ⟨wr.heap.size, 8, none⟩) := h4 11 27 (by kernel_rfl) (by kernel_rfl)
          have c8 := later hG.out (HX1.out.cell 8 rfl)
          clear h4 h5
          unfold OpY
          go_simp
          exact ⟨rfl, hG.out, ext_refl _⟩
        · have f28 : ρ (.tmp 28) = .slice po s'.body.length co := h4 12 28 (by kernel_rfl) (by kernel_rfl)
          clear h4 h5
          unfold OpY
          go_simp
          unfold OpR
          refine (HBODY.out _ _ (HSO.out.below hG.out)).mono ?_
          rintro e' w2 ⟨v3, rfl, hb2, hcp⟩
          exact ⟨_, rfl, OwnT.of hb2 hG.out.size hcp, ext_trans hG.out hb2, hb2⟩
        · have f5 := h5 5 (by kernel_rfl)
          clear h4 h5
          unfold OpY
          go_simp
          exact ⟨rfl, hG.out, ext_refl _⟩
        · have f30 : ρ (.tmp 30) = .pointer (some ⟨wr.heap.size, 9, none⟩) := h4 14 30 (by kernel_rfl) (by kernel_rfl)
          have c9 := later hG.out (HX1.out.cell 9 rfl)
          clear h4 h5
          unfold OpY
          go_simp
          exact ⟨rfl, hG.out, ext_refl _⟩
        · have f31 : ρ (.tmp 31) = .slice pe s'.els.length ce := h4 15 31 (by kernel_rfl) (by kernel_rfl)
          clear h4 h5
          unfold OpY
          go_simp
          unfold OpR
          refine (HELS.out _ _ (HSE.out.below hG.out)).mono ?_
          rintro e' w2 ⟨v3, rfl, hb2, hcp⟩
          exact ⟨_, rfl, OwnT.of hb2 hG.out.size hcp, ext_trans hG.out hb2, hb2⟩
        · have hv7 : OwnE s'.a W1.heap.size (ρ (.tmp 23)) w' := h4 7 23 (by kernel_rfl) (by kernel_rfl)
          have hv10 : OwnE s'.b W1.heap.size (ρ (.tmp 26)) w' := h4 10 26 (by kernel_rfl) (by kernel_rfl)
          have hv13 : OwnT s'.body W1.heap.size (ρ (.tmp 29)) w' := h4 13 29 (by kernel_rfl) (by kernel_rfl)
          have hv16 : OwnT s'.els W1.heap.size (ρ (.tmp 32)) w' := h4 16 32 (by kernel_rfl) (by kernel_rfl)
          have f18 : ρ (.tmp 18) = .int .u8 s'.kind := h4 2 18 (by kernel_rfl) (by kernel_rfl)
          have f20 : ρ (.tmp 20) = .int .i64 s'.to := h4 4 20 (by kernel_rfl) (by kernel_rfl)
          obtain ⟨pa', ca', pb', cb', po', co', pe', ce', f23, f26, f29, f32, hvs⟩ := OwnS.mk HST1.out hv7 hv10 hv13 hv16
          have HVS := hid hvs
          clear hvs hv7 hv10 hv13 hv16
          clear h4 h5
          unfold OpY
          go_simp
          exact ⟨HVS.out, hG.out, ext_refl _⟩
        · have hv17 : OwnS s' W1.heap.size (ρ (.tmp 33)) w' := h4 17 33 (by kernel_rfl) (by kernel_rfl)
          obtain ⟨x7, c7, x10, c10, x13, c13, x16, c16, f33, hlo, hown⟩ := hv17
          have HLO := hid hlo
          have HOWN := hid hown
          clear hlo hown
          clear h4 h5
          unfold OpY
          go_simp
          exact ⟨OwnB.mk HLO.out HOWN.out, ext_alloc hG.out _, ext_alloc (ext_refl _) _⟩
      case hstepB =>
        refine ⟨?_, ?_, trivial⟩
        · refine ⟨rfl, fun vs w' hS ρ h1 h2 h3 h4 h5 => ?_⟩
          obtain ⟨hG, hv0, hv18⟩ := hS
          have f16 : ρ (.tmp 16) = vs 0 := h4 0 16 (by kernel_rfl) (by kernel_rfl)
          have f34 : ρ (.tmp 34) = vs 18 := h4 18 34 (by kernel_rfl) (by kernel_rfl)
          rw [hv0] at f16
          obtain ⟨g, x7, c7, x10, c10, x13, c13, x16, c16, hv18, hgb, hlo, hown⟩ := hv18
          rw [hv18] at f34
          have hbw := ext_trans HB1.out hG
          have hsz1 := HSZ.out
          have hrow1 := rowG_agree HROW.out (Agree.of_below hbw |>.sub (Nat.zero_le _) (Nat.le_refl _)) hbw.size
          obtain ⟨v', w2, hrun, hown2, hgr, -, hd⟩ := run_append_own_at (P := Try.prog) w' w.heap.size 37 37 42 i0 _ 10 144 Try.underlying37 hi0 hz0 hz1 hz2 rfl (by decide) (.slice vA k vc) k news hrow1.1 ⟨g, 0, none⟩ 1 1 [.int .u8 s'.kind, .int .i64 s'.to, .int .u8 s'.a.op, .int .i64 s'.a.n, .slice x7 s'.a.args.length c7, .int .u8 s'.b.op, .int .i64 s'.b.n, .slice x10 s'.b.args.length c10, .slice x13 s'.body.length c13, .slice x16 s'.els.length c16] (by rfl) (blk_at hgb) (by simp [Value.oneCell']) HM1.out HM2.out hrow1.2.1
          refine opY_append (s := .tmp 16) (x := .tmp 34) (t := 37) rfl f16 f34 hrun ?_
          refine ⟨?_, _, rowG_step (w1 := w') (wA := w') HLT.out HROW.out rfl hbw (fun w'' h => by rw [HS'.out]; exact hown w'' (h.sub (by omega) (Nat.le_refl _))) (ext_refl _) (by simpa [doneV] using hown2) hgr hd⟩
          have := ext_trans HB.out hbw
          exact this.grown hgr this.size (fun g hg => ((rowG_own HROW.out) g hg).1)
        · refine ⟨rfl, fun vs w' hS ρ h1 h2 h3 h4 h5 => ?_⟩
          obtain ⟨hG, news', hrow'⟩ := hS
          have f35 : ρ (.tmp 35) = vs 19 := h4 19 35 (by kernel_rfl) (by kernel_rfl)
          have HR' := hid hrow'
          have hG := hid hG
          clear h4 h5 hrow'
          unfold OpY
          go_simp
          exact ⟨hG.out, news', by simpa [doneV] using HR'.out⟩
      case hdone =>
        intro vals w' hS
        obtain ⟨hG, news', hrow'⟩ := hS
        have HG := hid hG
        have HR' := hid hrow'
        clear hG hrow'
        go_wp2_with fail
        go_roundw
        case rel => exact ⟨k + 1, _, news', HLT.out, by go_num, rfl, HR', HG.out⟩
        case measure => have := HLT.out; simp [intOf]; omega
    · obtain rfl : k = l.length := by omega
      have j1 : decide ((l.length : Int) < (l.length : Int)) = false := by rw [decide_eq_false_iff_not]; omega
      have j1n : decide (l.length < l.length) = false := by simp
      have HFIN := hid (fun w'' h => RdTx.of_G (rowG_end hlen HROW.out w'' h))
      go_wp2_with fail
      go_ret
      exact ⟨_, rfl, hb, fun w'' h => HFIN.out w'' h⟩
end Go.Proofs.Ytoeegiaajngpeaa
