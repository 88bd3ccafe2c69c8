/-
  Copies of statements, walked: each statement's parts are copied, then it is appended (printed by tools/gen_cpt3.py).
-/
import Derived.Test.YtoeegiaajngpeaaCpT1
namespace Go.Proofs.Ytoeegiaajngpeaa
set_option linter.unusedVariables false
set_option linter.unusedSimpArgs false
set_option linter.unusedVariables false
open Go Go.RowKit
def CcV (s : St) (bx lo : Nat) (va vb vo ve : Value) : Nat → Value → World → Prop
  | 0, x, _ => x = .pointer (some ⟨bx, 2, none⟩)
  | 1, x, _ => x = va
  | 2, x, w => OwnE s.a lo x w
  | 3, x, _ => x = .pointer (some ⟨bx, 5, none⟩)
  | 4, x, _ => x = vb
  | 5, x, w => OwnE s.b lo x w
  | 6, x, _ => x = .pointer (some ⟨bx, 8, none⟩)
  | 7, x, _ => x = vo
  | 8, x, w => OwnT s.body lo x w
  | 9, x, _ => x = .pointer (some ⟨bx, 9, none⟩)
  | 10, x, _ => x = ve
  | 11, x, w => OwnT s.els lo x w
  | 12, x, _ => x = .pointer (some ⟨bx, 2, none⟩)
  | _ + 13, _, _ => True
theorem CcV.stab {s : St} {bx lo : Nat} {va vb vo ve : Value} {i : Nat} {x : Value} {w1 w2 : World} (h : CcV s bx lo va vb vo ve i x w1) (hb : Below w1.heap.size w1 w2) : CcV s bx lo va vb vo ve i x w2 := by
  match i, h with
  | 2, h => exact OwnE.below hb h
  | 5, h => exact OwnE.below hb h
  | 8, h => exact OwnT.below hb h
  | 11, h => exact OwnT.below hb h
  | 0, h => exact h
  | 1, h => exact h
  | 3, h => exact h
  | 4, h => exact h
  | 6, h => exact h
  | 7, h => exact h
  | 9, h => exact h
  | 10, h => exact h
  | 12, h => exact h
  | n + 13, h => trivial
/-- The box, what has been copied laid into it. -/
def CcW (w0 : World) (bx : Nat) (s : St) (x7 : Option Addr) (c7 : Nat) (x10 : Option Addr) (c10 : Nat) (x13 : Option Addr) (c13 : Nat) (x16 : Option Addr) (c16 : Nat) (n : Nat) : World :=
  let w1 := ((w0.setCell ⟨bx, 2, none⟩ (.int .u8 s.a.op)).setCell ⟨bx, 3, none⟩ (.int .i64 s.a.n)).setCell ⟨bx, 4, none⟩ (.slice x7 s.a.args.length c7)
  let w2 := ((w1.setCell ⟨bx, 5, none⟩ (.int .u8 s.b.op)).setCell ⟨bx, 6, none⟩ (.int .i64 s.b.n)).setCell ⟨bx, 7, none⟩ (.slice x10 s.b.args.length c10)
  let w3 := w2.setCell ⟨bx, 8, none⟩ (.slice x13 s.body.length c13)
  if n = 0 then w0 else if n = 1 then w1 else if n = 2 then w2 else if n = 3 then w3 else w3.setCell ⟨bx, 9, none⟩ (.slice x16 s.els.length c16)
structure CcD (W1 : World) (s : St) (bx : Nat) (x7 : Option Addr) (c7 : Nat) (x10 : Option Addr) (c10 : Nat) (x13 : Option Addr) (c13 : Nat) (x16 : Option Addr) (c16 : Nat) (vs : Nat → Value) (w0 : World) : Prop where
  bel : Below W1.heap.size W1 w0
  v2 : vs 2 = .agg #[.int .u8 s.a.op, .int .i64 s.a.n, .slice x7 s.a.args.length c7]
  v5 : vs 5 = .agg #[.int .u8 s.b.op, .int .i64 s.b.n, .slice x10 s.b.args.length c10]
  v8 : vs 8 = .slice x13 s.body.length c13
  v11 : vs 11 = .slice x16 s.els.length c16
  own : ∀ w'', Agree W1.heap.size w0.heap.size w0 w'' → RSt w'' s [.int .u8 s.kind, .int .i64 s.to, .int .u8 s.a.op, .int .i64 s.a.n, .slice x7 s.a.args.length c7, .int .u8 s.b.op, .int .i64 s.b.n, .slice x10 s.b.args.length c10, .slice x13 s.body.length c13, .slice x16 s.els.length c16]
def CcS (W1 : World) (s : St) (bx : Nat) (i : Nat) (vs : Nat → Value) (w : World) : Prop :=
  ∃ w0 x7 c7 x10 c10 x13 c13 x16 c16, CcD W1 s bx x7 c7 x10 c10 x13 c13 x16 c16 vs w0 ∧ w = CcW w0 bx s x7 c7 x10 c10 x13 c13 x16 c16 ((i - 12) / 2) ∧
    (i = 13 → vs 12 = .pointer (some ⟨bx, 2, none⟩)) ∧ (i = 15 → vs 14 = .pointer (some ⟨bx, 5, none⟩)) ∧ (i = 17 → vs 16 = .pointer (some ⟨bx, 8, none⟩)) ∧ (i = 19 → vs 18 = .pointer (some ⟨bx, 9, none⟩))
theorem CcD.put {W1 : World} {s : St} {bx : Nat} {x7 c7 x10 c10 x13 c13 x16 c16} {vs : Nat → Value} {w0 : World} (h : CcD W1 s bx x7 c7 x10 c10 x13 c13 x16 c16 vs w0) (i : Nat) (hi : 12 ≤ i) (x : Value) : CcD W1 s bx x7 c7 x10 c10 x13 c13 x16 c16 (doneV vs i x) w0 :=
  ⟨h.bel, by unfold doneV; rw [if_neg (by omega)]; exact h.v2, by unfold doneV; rw [if_neg (by omega)]; exact h.v5, by unfold doneV; rw [if_neg (by omega)]; exact h.v8, by unfold doneV; rw [if_neg (by omega)]; exact h.v11, h.own⟩
/-- A row of statements in a block of its own, not ahead of lo. -/
def RdTxO (lo : Nat) (l : List St) (w : World) (v : Value) : Prop := RdTx w l v ∧ (l ≠ [] → ∃ g cap cells, v = .slice (some ⟨g, 0, none⟩) l.length cap ∧ lo ≤ g ∧ Blk w g cells 42 ∧ l.length * 10 ≤ cells.size)
theorem rdTxO_of {wr : World} {B : Nat} {l : List St} {v : Value} {news : List Value} (hl : l.length ≤ 9223372036854775807) (h : RowG RSt 10 42 wr B l l.length v news) : ∀ w'', Agree B wr.heap.size wr w'' → RdTxO B l w'' v := by
  intro w'' hw''
  refine ⟨RdTx.of_G (rowG_end hl h w'' hw''), fun hne => ?_⟩
  obtain ⟨hrow, hBw, -⟩ := h
  have hlt := hrow.lt
  obtain ⟨hlen, ⟨rfl, h0⟩ | ⟨g, cap, cur, rfl, hg, hh, hn, hm, hcs, htk⟩⟩ := hrow
  · exact absurd (List.eq_nil_of_length_eq_zero h0) hne
  · have hgb : Blk wr g cur 42 := hh
    exact ⟨g, cap, cur, rfl, hg, hgb.agree hw'' hg (hlt g rfl).2, by rw [hcs]; exact Nat.mul_le_mul_right 10 hn⟩
theorem Blk.some {w : World} {b : Nat} {cs : Array Value} {t : TypeId} (h : Blk w b cs t) (i : Nat) (hi : i < cs.size) : ∃ v, w.cell? ⟨b, i, none⟩ = some v := ⟨cs[i], h.cell i (Array.getElem?_eq_getElem hi)⟩
theorem ccw_blk {W1 w0 : World} {s : St} {bx : Nat} {x7 c7 x10 c10 x13 c13 x16 c16} {vs : Nat → Value} {cs : Array Value} {t : TypeId} {n : Nat} (hb : Blk W1 bx cs t) (h : CcD W1 s bx x7 c7 x10 c10 x13 c13 x16 c16 vs w0) : ∃ cs', Blk (CcW w0 bx s x7 c7 x10 c10 x13 c13 x16 c16 n) bx cs' t ∧ cs'.size = cs.size := by
  have h0 := hb.below h.bel
  unfold CcW
  have h1 := ((h0.set 2 (.int .u8 s.a.op)).set 3 (.int .i64 s.a.n)).set 4 (.slice x7 s.a.args.length c7)
  have h2 := ((h1.set 5 (.int .u8 s.b.op)).set 6 (.int .i64 s.b.n)).set 7 (.slice x10 s.b.args.length c10)
  have h3 := h2.set 8 (.slice x13 s.body.length c13)
  have h4 := h3.set 9 (.slice x16 s.els.length c16)
  dsimp only
  split
  · exact ⟨_, h0, rfl⟩
  · split
    · exact ⟨_, h1, by simp⟩
    · split
      · exact ⟨_, h2, by simp⟩
      · split
        · exact ⟨_, h3, by simp⟩
        · exact ⟨_, h4, by simp⟩
set_option maxRecDepth 100000 in
set_option maxHeartbeats 4000000 in
theorem tcopy_any (s : Nat) : ∀ (l : List St) (w : World) (v : Value), sizeT l ≤ s → sizeT l ≤ 3000 → (∀ x ∈ flatT l, okE x) → RdTx w l v →
    Calls Try.prog 30 #[v] w (CopyG (RdTxO w.heap.size l) w) := by
  induction s with
  | zero =>
    intro l w v hs hm hok hr
    have hl : l = [] := by cases l with
      | nil => rfl
      | cons x xs => exfalso; unfold sizeT at hs; cases x; simp [sizeS] at hs
    subst hl
    obtain ⟨a, cap, rfl, -, -⟩ := hr
    go_enter Try.func30, Try.ntmps30
    go_wp2_with fail
    go_loopw [3, 8] (fun x i wr => x = .slice none 0 0 ∧ i = .int .i64 0 ∧ Below w.heap.size w wr) (fun _ _ _ => 0)
    case atStart => exact ⟨rfl, rfl, ext_refl _⟩
    case round =>
      obtain ⟨rfl, rfl, hb⟩ := hrel
      go_wp2_with fail
      go_ret
      exact ⟨_, rfl, hb, fun w'' _ => ⟨⟨none, 0, rfl, by simp, fun h => absurd rfl h⟩, fun h => absurd rfl h⟩⟩
  | succ s ih =>
  intro l w v hs hm hok hr
  obtain ⟨a, cap, rfl, hlen, hx⟩ := hr
  have IH := hid ih
  have HX := hid hx
  have HOK := hid hok
  have HLEN := hid hlen
  have HM := hid hm
  have HS := hid hs
  clear ih hx hok hm hs
  obtain ⟨ti, hti, hz0, hz1, hz2⟩ := info_parts infoStmt
  go_enter Try.func30, Try.ntmps30
  go_wp2_with fail
  go_loopw [3, 8] (fun x i wr => ∃ (k : Nat) (v : Value) (news : List Value), k ≤ l.length ∧ i = .int .i64 k ∧ x = v ∧ Hid (RowG RSt 10 42 wr w.heap.size l k v news) ∧ Below w.heap.size w wr) (fun _ i _ => l.length - (intOf i).toNat)
  case atStart => exact ⟨0, .slice none 0 0, [], Nat.zero_le _, rfl, rfl, rowG_nil (Nat.le_refl _), ext_refl _⟩
  case round =>
    obtain ⟨k, v, news, hk, rfl, rfl, HROW, hb⟩ := hrel
    obtain ⟨vA, vc, rfl⟩ := rowG_slice HROW.out
    have hlen := HLEN.out
    by_cases hlt : k < l.length
    · obtain ⟨b, off, rfl, hrd⟩ := HX.out (by intro h; subst h; simp at hlt)
      obtain ⟨pa, ca, pb, cb, po, co, pe, ce, d0, d1, d2, d3, d4, d5, d6, d7, d8, d9, hst⟩ := hrd.get10 k hlt
      have hfl := flat_sub hlt
      have hsz := sizeT_get l k hlt
      have lc := lt_of_cell d0
      have HST := hid (hst.below hb)
      have HB := hid hb
      have q0 := later hb d0
      have q1 := later hb d1
      have q2 := later hb d2
      have q3 := later hb d3
      have q4 := later hb d4
      have q5 := later hb d5
      have q6 := later hb d6
      have q7 := later hb d7
      have q8 := later hb d8
      have q9 := later hb d9
      have hll : l.length ≤ 3000 := by have := sizeT_length l; have := HM.out; omega
      have j1 : decide ((k : Int) < (l.length : Int)) = true := by rw [decide_eq_true_iff]; omega
      have j1n : decide (k < l.length) = true := decide_eq_true hlt
      have j3 : IntKind.i64.wrap ((k : Int) + 1) = (k : Int) + 1 := IntWalk.i64_in _ (by omega)
      have HLT := hid hlt
      have HLS : ∃ s', l[k]'hlt = s' := ⟨_, rfl⟩
      obtain ⟨s', hs'⟩ := HLS
      rw [hs'] at d0 d1 d2 d3 d4 d5 d6 d7 d8 d9 HST hfl hsz q0 q1 q2 q3 q4 q5 q6 q7 q8 q9 hst
      have HS' := hid hs'
      have hok1 := HOK.out s' hfl.2.2
      have hsb := sizeS_body s'
      have hse := sizeS_els s'
      have hsi := HS.out
      have hmi := HM.out
      have HBODY := hid (fun (w' : World) (v' : Value) (h : RdTx w' s'.body v') => IH.out s'.body w' v' (by omega) (by omega) (fun x hx => HOK.out x (hfl.1 x hx)) h)
      have HELS := hid (fun (w' : World) (v' : Value) (h : RdTx w' s'.els v') => IH.out s'.els w' v' (by omega) (by omega) (fun x hx => HOK.out x (hfl.2.1 x hx)) h)
      have HEA := hid (fun (w' : World) (v0 v1 v2 : Value) (h : RdEx w' s'.a v0 v1 v2) => copy_any (sizeE s'.a) s'.a w' v0 v1 v2 (Nat.le_refl _) (by have := hok1.1; omega) h)
      have HEB := hid (fun (w' : World) (v0 v1 v2 : Value) (h : RdEx w' s'.b v0 v1 v2) => copy_any (sizeE s'.b) s'.b w' v0 v1 v2 (Nat.le_refl _) (by have := hok1.2; omega) h)
      have hm1 : k + 1 ≤ maxLen := by unfold maxLen; omega
      have hm2 : (k + 1) * 144 ≤ 140737488355328 := by omega
      have HM1 := hid hm1
      have HM2 := hid hm2
      clear d0 d1 d2 d3 d4 d5 d6 d7 d8 d9 hst hrd hfl hsz hok1 hsb hse hsi hmi hm1 hm2 hs' hll hb
      go_wp2_with fail
      obtain ⟨W1, hW1⟩ : ∃ W1, W1 = wr.alloc (.cells #[.int .u8 s'.kind, .int .i64 s'.to, .int .u8 s'.a.op, .int .i64 s'.a.n, .slice pa s'.a.args.length ca, .int .u8 s'.b.op, .int .i64 s'.b.n, .slice pb s'.b.args.length cb, .slice po s'.body.length co, .slice pe s'.els.length ce] 42) := ⟨_, rfl⟩
      rw [← hW1]
      have hx1 : Blk W1 wr.heap.size #[.int .u8 s'.kind, .int .i64 s'.to, .int .u8 s'.a.op, .int .i64 s'.a.n, .slice pa s'.a.args.length ca, .int .u8 s'.b.op, .int .i64 s'.b.n, .slice pb s'.b.args.length cb, .slice po s'.body.length co, .slice pe s'.els.length ce] 42 := by rw [hW1]; exact Blk.new _ _ _
      have HB1 : Hid (Below wr.heap.size wr W1) := hid (by rw [hW1]; exact ext_alloc (ext_refl _) _)
      have HST1 := hid (HST.out.below HB1.out)
      have HX1 := hid hx1
      have HSZ : Hid (W1.heap.size = wr.heap.size + 1) := hid (by rw [hW1]; simp)
      clear hW1 hx1 q0 q1 q2 q3 q4 q5 q6 q7 q8 q9
      obtain ⟨-, -, hsa, hsb, hso, hse⟩ := HST1.out.shape
      have HSA := hid hsa
      have HSB := hid hsb
      have HSO := hid hso
      have HSE := hid hse
      clear hsa hsb hso hse
      apply wp_region_then 13 (CcV s' wr.heap.size W1.heap.size (.agg #[.int .u8 s'.a.op, .int .i64 s'.a.n, .slice pa s'.a.args.length ca]) (.agg #[.int .u8 s'.b.op, .int .i64 s'.b.n, .slice pb s'.b.args.length cb]) (.slice po s'.body.length co) (.slice pe s'.els.length ce)) (fun w' => Below W1.heap.size W1 w') (fun w1 w2 => Below w1.heap.size w1 w2) (CcS W1 s' wr.heap.size)
      focus (intro vals; simp [putAll, dstOf, Act.put, List.getD]; rfl)
      case hm => kernel_rfl
      case hd => kernel_rfl
      case hb => kernel_rfl
      case hng => kernel_rfl
      case hsz => kernel_rfl
      case hN => rfl
      case htail => kernel_rfl
      case hstab => exact fun i x w1 w2 h hb => h.stab hb
      case h0 => exact ext_drew (ext_refl _)
      case hstart =>
        intro vs w' hG hV
        obtain ⟨pa', ca', pb', cb', po', co', pe', ce', f23, f26, f29, f32, hvs⟩ := OwnS.mk HST1.out (hV 2 (by omega)) (hV 5 (by omega)) (hV 8 (by omega)) (hV 11 (by omega))
        obtain ⟨y7, z7, y10, z10, y13, z13, y16, z16, he, -, hown⟩ := hvs
        cases he
        exact ⟨w', _, _, _, _, _, _, _, _, ⟨hG, f23, f26, f29, f32, hown⟩, rfl, fun _ => hV 12 (by omega), fun h => by omega, fun h => by omega, fun h => by omega⟩
      case hstepA =>
        refine ⟨?_, ?_, ?_, ?_, ?_, ?_, ?_, ?_, ?_, ?_, ?_, ?_, ?_, trivial⟩
        all_goals (
          refine ⟨(fun g b h => by cases h), fun w' hG hg ρ h1 h2 h3 h4 h5 => ?_⟩
          have hG := hid hG)
        · have f5 : ρ (.tmp 5) = .pointer (some ⟨wr.heap.size, 0, none⟩) := h5 5 (by kernel_rfl)
          clear h4 h5
          unfold OpY
          go_simp
          exact ⟨rfl, hG.out, ext_refl _⟩
        · have f12 : ρ (.tmp 12) = .pointer (some ⟨wr.heap.size, 2, none⟩) := h4 0 12 (by kernel_rfl) (by kernel_rfl)
          have c2 := later hG.out (HX1.out.cell 2 rfl)
          have c3 := later hG.out (HX1.out.cell 3 rfl)
          have c4 := later hG.out (HX1.out.cell 4 rfl)
          clear h4 h5
          unfold OpY
          go_simp
          exact ⟨rfl, hG.out, ext_refl _⟩
        · have f13 : ρ (.tmp 13) = .agg #[.int .u8 s'.a.op, .int .i64 s'.a.n, .slice pa s'.a.args.length ca] := h4 1 13 (by kernel_rfl) (by kernel_rfl)
          clear h4 h5
          unfold OpY
          go_simp
          unfold OpR
          refine (HEA.out _ _ _ _ (HSA.out.below hG.out)).mono ?_
          rintro e' w2 ⟨a3, c3, rfl, hb2, hcp, -⟩
          exact ⟨_, rfl, ⟨a3, c3, rfl, (ext_trans hG.out hb2).size, fun w'' h => hcp w'' (h.sub hG.out.size (Nat.le_refl _))⟩, ext_trans hG.out hb2, hb2⟩
        · have f5 : ρ (.tmp 5) = .pointer (some ⟨wr.heap.size, 0, none⟩) := h5 5 (by kernel_rfl)
          clear h4 h5
          unfold OpY
          go_simp
          exact ⟨rfl, hG.out, ext_refl _⟩
        · have f15 : ρ (.tmp 15) = .pointer (some ⟨wr.heap.size, 5, none⟩) := h4 3 15 (by kernel_rfl) (by kernel_rfl)
          have c5 := later hG.out (HX1.out.cell 5 rfl)
          have c6 := later hG.out (HX1.out.cell 6 rfl)
          have c7 := later hG.out (HX1.out.cell 7 rfl)
          clear h4 h5
          unfold OpY
          go_simp
          exact ⟨rfl, hG.out, ext_refl _⟩
        · have f16 : ρ (.tmp 16) = .agg #[.int .u8 s'.b.op, .int .i64 s'.b.n, .slice pb s'.b.args.length cb] := h4 4 16 (by kernel_rfl) (by kernel_rfl)
          clear h4 h5
          unfold OpY
          go_simp
          unfold OpR
          refine (HEB.out _ _ _ _ (HSB.out.below hG.out)).mono ?_
          rintro e' w2 ⟨a3, c3, rfl, hb2, hcp, -⟩
          exact ⟨_, rfl, ⟨a3, c3, rfl, (ext_trans hG.out hb2).size, fun w'' h => hcp w'' (h.sub hG.out.size (Nat.le_refl _))⟩, ext_trans hG.out hb2, hb2⟩
        · have f5 : ρ (.tmp 5) = .pointer (some ⟨wr.heap.size, 0, none⟩) := h5 5 (by kernel_rfl)
          clear h4 h5
          unfold OpY
          go_simp
          exact ⟨rfl, hG.out, ext_refl _⟩
        · have f18 : ρ (.tmp 18) = .pointer (some ⟨wr.heap.size, 8, none⟩) := h4 6 18 (by kernel_rfl) (by kernel_rfl)
          have c8 := later hG.out (HX1.out.cell 8 rfl)
          clear h4 h5
          unfold OpY
          go_simp
          exact ⟨rfl, hG.out, ext_refl _⟩
        · have f19 : ρ (.tmp 19) = .slice po s'.body.length co := h4 7 19 (by kernel_rfl) (by kernel_rfl)
          clear h4 h5
          unfold OpY
          go_simp
          unfold OpR
          refine (HBODY.out _ _ (HSO.out.below hG.out)).mono ?_
          rintro e' w2 ⟨v3, rfl, hb2, hcp⟩
          exact ⟨_, rfl, OwnT.of hb2 hG.out.size (fun w'' h => (hcp w'' h).1), ext_trans hG.out hb2, hb2⟩
        · have f5 : ρ (.tmp 5) = .pointer (some ⟨wr.heap.size, 0, none⟩) := h5 5 (by kernel_rfl)
          clear h4 h5
          unfold OpY
          go_simp
          exact ⟨rfl, hG.out, ext_refl _⟩
        · have f21 : ρ (.tmp 21) = .pointer (some ⟨wr.heap.size, 9, none⟩) := h4 9 21 (by kernel_rfl) (by kernel_rfl)
          have c9 := later hG.out (HX1.out.cell 9 rfl)
          clear h4 h5
          unfold OpY
          go_simp
          exact ⟨rfl, hG.out, ext_refl _⟩
        · have f22 : ρ (.tmp 22) = .slice pe s'.els.length ce := h4 10 22 (by kernel_rfl) (by kernel_rfl)
          clear h4 h5
          unfold OpY
          go_simp
          unfold OpR
          refine (HELS.out _ _ (HSE.out.below hG.out)).mono ?_
          rintro e' w2 ⟨v3, rfl, hb2, hcp⟩
          exact ⟨_, rfl, OwnT.of hb2 hG.out.size (fun w'' h => (hcp w'' h).1), ext_trans hG.out hb2, hb2⟩
        · have f5 : ρ (.tmp 5) = .pointer (some ⟨wr.heap.size, 0, none⟩) := h5 5 (by kernel_rfl)
          clear h4 h5
          unfold OpY
          go_simp
          exact ⟨rfl, hG.out, ext_refl _⟩
      case hstepB =>
        refine ⟨?_, ?_, ?_, ?_, ?_, ?_, ?_, trivial⟩
        all_goals (
          refine ⟨rfl, fun vs w' hS ρ h1 h2 h3 h4 h5 => ?_⟩
          obtain ⟨w0, x7, c7, x10, c10, x13, c13, x16, c16, hD, hw, hp1, hp2, hp3, hp4⟩ := hS
          have HD := hid hD
          have HW := hid hw
          obtain ⟨cs0, hcs0, hsz0⟩ : ∃ cs0, Blk w' wr.heap.size cs0 42 ∧ cs0.size = 10 := by rw [hw]; exact ccw_blk HX1.out hD
          have hbx := hcs0.lt
          clear hw)
        · have fa : ρ (.tmp 24) = .pointer (some ⟨wr.heap.size, 2, none⟩) := (h4 12 24 (by kernel_rfl) (by kernel_rfl)).trans (hp1 rfl)
          have fv := (h4 2 14 (by kernel_rfl) (by kernel_rfl)).trans hD.v2
          have g2 := hcs0.free 2
          have g3 := hcs0.free 3
          have g4 := hcs0.free 4
          obtain ⟨q2, r2⟩ := hcs0.some 2 (by omega)
          obtain ⟨q3, r3⟩ := hcs0.some 3 (by omega)
          obtain ⟨q4, r4⟩ := hcs0.some 4 (by omega)
          clear h4 h5 hp1 hp2 hp3 hp4 hD hcs0
          unfold OpY
          go_simp
          exact ⟨w0, x7, c7, x10, c10, x13, c13, x16, c16, HD.out.put 13 (by omega) _, (by rw [HW.out]; simp [CcW]), (fun h => by omega), (fun h => by omega), (fun h => by omega), (fun h => by omega)⟩
        · have f5 : ρ (.tmp 5) = .pointer (some ⟨wr.heap.size, 0, none⟩) := h5 5 (by kernel_rfl) (by kernel_rfl)
          clear h4 h5 hp1 hp2 hp3 hp4
          unfold OpY
          go_simp
          exact ⟨w0, x7, c7, x10, c10, x13, c13, x16, c16, HD.out.put 14 (by omega) _, (by rw [HW.out]), (fun h => by first | omega | (unfold doneV; simp)), (fun h => by first | omega | (unfold doneV; simp)), (fun h => by first | omega | (unfold doneV; simp)), (fun h => by first | omega | (unfold doneV; simp))⟩
        · have fa : ρ (.tmp 25) = .pointer (some ⟨wr.heap.size, 5, none⟩) := (h4 14 25 (by kernel_rfl) (by kernel_rfl)).trans (hp2 rfl)
          have fv := (h4 5 17 (by kernel_rfl) (by kernel_rfl)).trans hD.v5
          have g5 := hcs0.free 5
          have g6 := hcs0.free 6
          have g7 := hcs0.free 7
          obtain ⟨q5, r5⟩ := hcs0.some 5 (by omega)
          obtain ⟨q6, r6⟩ := hcs0.some 6 (by omega)
          obtain ⟨q7, r7⟩ := hcs0.some 7 (by omega)
          clear h4 h5 hp1 hp2 hp3 hp4 hD hcs0
          unfold OpY
          go_simp
          exact ⟨w0, x7, c7, x10, c10, x13, c13, x16, c16, HD.out.put 15 (by omega) _, (by rw [HW.out]; simp [CcW]), (fun h => by omega), (fun h => by omega), (fun h => by omega), (fun h => by omega)⟩
        · have f5 : ρ (.tmp 5) = .pointer (some ⟨wr.heap.size, 0, none⟩) := h5 5 (by kernel_rfl) (by kernel_rfl)
          clear h4 h5 hp1 hp2 hp3 hp4
          unfold OpY
          go_simp
          exact ⟨w0, x7, c7, x10, c10, x13, c13, x16, c16, HD.out.put 16 (by omega) _, (by rw [HW.out]), (fun h => by first | omega | (unfold doneV; simp)), (fun h => by first | omega | (unfold doneV; simp)), (fun h => by first | omega | (unfold doneV; simp)), (fun h => by first | omega | (unfold doneV; simp))⟩
        · have fa : ρ (.tmp 26) = .pointer (some ⟨wr.heap.size, 8, none⟩) := (h4 16 26 (by kernel_rfl) (by kernel_rfl)).trans (hp3 rfl)
          have fv := (h4 8 20 (by kernel_rfl) (by kernel_rfl)).trans hD.v8
          have g8 := hcs0.free 8
          obtain ⟨q8, r8⟩ := hcs0.some 8 (by omega)
          clear h4 h5 hp1 hp2 hp3 hp4 hD hcs0
          unfold OpY
          go_simp
          exact ⟨w0, x7, c7, x10, c10, x13, c13, x16, c16, HD.out.put 17 (by omega) _, (by rw [HW.out]; simp [CcW]), (fun h => by omega), (fun h => by omega), (fun h => by omega), (fun h => by omega)⟩
        · have f5 : ρ (.tmp 5) = .pointer (some ⟨wr.heap.size, 0, none⟩) := h5 5 (by kernel_rfl) (by kernel_rfl)
          clear h4 h5 hp1 hp2 hp3 hp4
          unfold OpY
          go_simp
          exact ⟨w0, x7, c7, x10, c10, x13, c13, x16, c16, HD.out.put 18 (by omega) _, (by rw [HW.out]), (fun h => by first | omega | (unfold doneV; simp)), (fun h => by first | omega | (unfold doneV; simp)), (fun h => by first | omega | (unfold doneV; simp)), (fun h => by first | omega | (unfold doneV; simp))⟩
        · have fa : ρ (.tmp 27) = .pointer (some ⟨wr.heap.size, 9, none⟩) := (h4 18 27 (by kernel_rfl) (by kernel_rfl)).trans (hp4 rfl)
          have fv := (h4 11 23 (by kernel_rfl) (by kernel_rfl)).trans hD.v11
          have g9 := hcs0.free 9
          obtain ⟨q9, r9⟩ := hcs0.some 9 (by omega)
          clear h4 h5 hp1 hp2 hp3 hp4 hD hcs0
          unfold OpY
          go_simp
          exact ⟨w0, x7, c7, x10, c10, x13, c13, x16, c16, HD.out.put 19 (by omega) _, (by rw [HW.out]; simp [CcW]), (fun h => by omega), (fun h => by omega), (fun h => by omega), (fun h => by omega)⟩
      case hdone =>
        intro vals w' hS
        obtain ⟨w0, x7, c7, x10, c10, x13, c13, x16, c16, hD, hw, -, -, -, -⟩ := hS
        obtain ⟨W2, rfl⟩ : ∃ W2, W2 = w' := ⟨_, rfl⟩
        have hbw0 := ext_trans HB1.out hD.bel
        have hW2 : W2 = CcW w0 wr.heap.size s' x7 c7 x10 c10 x13 c13 x16 c16 4 := hw
        clear hw
        have hbox : Blk W2 wr.heap.size #[.int .u8 s'.kind, .int .i64 s'.to, .int .u8 s'.a.op, .int .i64 s'.a.n, .slice x7 s'.a.args.length c7, .int .u8 s'.b.op, .int .i64 s'.b.n, .slice x10 s'.b.args.length c10, .slice x13 s'.body.length c13, .slice x16 s'.els.length c16] 42 := by
          rw [hW2]
          simpa [CcW] using (((((((((HX1.out.below hD.bel).set 2 (.int .u8 s'.a.op)).set 3 (.int .i64 s'.a.n)).set 4 (.slice x7 s'.a.args.length c7)).set 5 (.int .u8 s'.b.op)).set 6 (.int .i64 s'.b.n)).set 7 (.slice x10 s'.b.args.length c10)).set 8 (.slice x13 s'.body.length c13)).set 9 (.slice x16 s'.els.length c16))
        have hbw2 : Below wr.heap.size wr W2 := by
          rw [hW2]
          exact ext_set (ext_set (ext_set (ext_set (ext_set (ext_set (ext_set (ext_set hbw0 (Nat.le_refl _) _) (Nat.le_refl _) _) (Nat.le_refl _) _) (Nat.le_refl _) _) (Nat.le_refl _) _) (Nat.le_refl _) _) (Nat.le_refl _) _) (Nat.le_refl _) _
        have hown2 : ∀ w'', Agree wr.heap.size W2.heap.size W2 w'' → RSt w'' s' [.int .u8 s'.kind, .int .i64 s'.to, .int .u8 s'.a.op, .int .i64 s'.a.n, .slice x7 s'.a.args.length c7, .int .u8 s'.b.op, .int .i64 s'.b.n, .slice x10 s'.b.args.length c10, .slice x13 s'.body.length c13, .slice x16 s'.els.length c16] := by
          intro w'' hw''
          have hsz := HSZ.out
          have hs0 : W2.heap.size = w0.heap.size := by rw [hW2]; simp [CcW, size_setCell]
          refine hD.own w'' (Agree.trans (b := W2) (fun b hb1 hb2 => ?_) (hw''.sub (by omega) (by omega)))
          rw [hW2]
          simp only [CcW]
          repeat rw [if_neg (by omega)]
          repeat rw [Below.heap_setCell _ _ _ b (by dsimp only; omega)]
        have HBW2 := hid hbw2
        have HOWN2 := hid hown2
        have e0 := hbox.cell 0 (v := .int .u8 s'.kind) rfl
        have e1 := hbox.cell 1 (v := .int .i64 s'.to) rfl
        have e2 := hbox.cell 2 (v := .int .u8 s'.a.op) rfl
        have e3 := hbox.cell 3 (v := .int .i64 s'.a.n) rfl
        have e4 := hbox.cell 4 (v := .slice x7 s'.a.args.length c7) rfl
        have e5 := hbox.cell 5 (v := .int .u8 s'.b.op) rfl
        have e6 := hbox.cell 6 (v := .int .i64 s'.b.n) rfl
        have e7 := hbox.cell 7 (v := .slice x10 s'.b.args.length c10) rfl
        have e8 := hbox.cell 8 (v := .slice x13 s'.body.length c13) rfl
        have e9 := hbox.cell 9 (v := .slice x16 s'.els.length c16) rfl
        have hbl := hbox.lt
        have hrow2 := rowG_agree HROW.out ((Agree.of_below (lo := w.heap.size) hbw2)) hbw2.size
        have HOWNX := hid (ownsRow_frame (w' := W2.alloc (.cells #[.int .u8 s'.kind, .int .i64 s'.to, .int .u8 s'.a.op, .int .i64 s'.a.n, .slice x7 s'.a.args.length c7, .int .u8 s'.b.op, .int .i64 s'.b.n, .slice x10 s'.b.args.length c10, .slice x13 s'.body.length c13, .slice x16 s'.els.length c16] 42)) hrow2.1 fun g hg => (ext_alloc (ext_refl W2) _).block g (hrow2.1.lt g hg).2)
        have HSZX : Hid (w.heap.size ≤ (W2.alloc (.cells #[.int .u8 s'.kind, .int .i64 s'.to, .int .u8 s'.a.op, .int .i64 s'.a.n, .slice x7 s'.a.args.length c7, .int .u8 s'.b.op, .int .i64 s'.b.n, .slice x10 s'.b.args.length c10, .slice x13 s'.body.length c13, .slice x16 s'.els.length c16] 42)).heap.size) := hid (by have := hrow2.2.1; simp; omega)
        have HCW := hid (blk_at (Blk.new W2 #[.int .u8 s'.kind, .int .i64 s'.to, .int .u8 s'.a.op, .int .i64 s'.a.n, .slice x7 s'.a.args.length c7, .int .u8 s'.b.op, .int .i64 s'.b.n, .slice x10 s'.b.args.length c10, .slice x13 s'.body.length c13, .slice x16 s'.els.length c16] 42))
        clear hD hbw0 hW2 hbox hbw2 hown2 hrow2
        go_wp2_with (at_builtin; go_must (refine wpList_append_own_at _ rfl (.tmp 28) (.tmp 30) 37 rfl w.heap.size 42 ti _ 10 144 Try.underlying37 hti hz0 hz1 hz2 rfl (by decide) (.slice vA k vc) k news rfl HOWNX.out ⟨W2.heap.size, 0, none⟩ 1 1 [.int .u8 s'.kind, .int .i64 s'.to, .int .u8 s'.a.op, .int .i64 s'.a.n, .slice x7 s'.a.args.length c7, .int .u8 s'.b.op, .int .i64 s'.b.n, .slice x10 s'.b.args.length c10, .slice x13 s'.body.length c13, .slice x16 s'.els.length c16] rfl rfl HCW.out (by simp [Value.oneCell']) HM1.out HM2.out HSZX.out ?_); intro v' w4 hown4 hgr4 _hn hd4)
        have HST := hid (rowG_step (R := RSt) HLT.out HROW.out rfl HBW2.out (fun w'' h => by rw [HS'.out]; exact HOWN2.out w'' h) (ext_alloc (ext_refl W2) _) hown4 hgr4 hd4)
        have HBX4 : Hid (Below w.heap.size w w4) := hid (by
          have h1 := ext_alloc (ext_trans HB.out HBW2.out) (.cells #[.int .u8 s'.kind, .int .i64 s'.to, .int .u8 s'.a.op, .int .i64 s'.a.n, .slice x7 s'.a.args.length c7, .int .u8 s'.b.op, .int .i64 s'.b.n, .slice x10 s'.b.args.length c10, .slice x13 s'.body.length c13, .slice x16 s'.els.length c16] 42)
          exact h1.grown hgr4 h1.size (fun g hg => (rowG_own HROW.out g hg).1))
        clear hown4 hgr4 hd4
        go_roundw
        case rel => exact ⟨k + 1, _, _, HLT.out, by go_num, rfl, HST, HBX4.out⟩
        case measure => have := HLT.out; simp [intOf]; omega
    · obtain rfl : k = l.length := by omega
      have j1 : decide ((l.length : Int) < (l.length : Int)) = false := by rw [decide_eq_false_iff_not]; omega
      have j1n : decide (l.length < l.length) = false := by simp
      have HFIN := hid (fun w'' h => rdTxO_of hlen HROW.out w'' h)
      go_wp2_with fail
      go_ret
      exact ⟨_, rfl, hb, fun w'' h => HFIN.out w'' h⟩
end Go.Proofs.Ytoeegiaajngpeaa
