/-
  Walks: the examples that each law asks first (works).
-/
import Derived.Test.YtmgchpijkdammaaDoorShW
import Derived.Test.YtmgchpijkdammaaDoorReg4
namespace Go.Proofs.YtmgchpijkdammaaDoor
set_option linter.unusedVariables false
set_option linter.unusedSimpArgs false
open Go Go.RowKit
def evOkB (e : Ev) : Bool := decide ((0 ≤ e.kind ∧ e.kind ≤ 255) ∧ (-9223372036854775808 ≤ e.th ∧ e.th ≤ 9223372036854775807) ∧ (-9223372036854775808 ≤ e.tx ∧ e.tx ≤ 9223372036854775807) ∧ (-9223372036854775808 ≤ e.at_ ∧ e.at_ ≤ 9223372036854775807) ∧
  (-9223372036854775808 ≤ e.v ∧ e.v ≤ 9223372036854775807) ∧ (-9223372036854775808 ≤ e.x ∧ e.x ≤ 9223372036854775807) ∧ (0 ≤ e.why ∧ e.why ≤ 255))
theorem evOk_of {e : Ev} (h : evOkB e = true) : EvOk e := by unfold evOkB at h; unfold EvOk; exact of_decide_eq_true h
theorem evs_new (w : World) (l : List Ev) (h : l.all evOkB = true) : EvsAt (w.alloc (.cells (flatA (l.map evL)) 34)) (some ⟨w.heap.size, 0, none⟩) l := by
  refine ⟨fun e he => evOk_of (List.all_eq_true.1 h e he), fun _ => ⟨_, _, rfl, fun k hk j v hv => ?_⟩⟩
  refine (Blk.new w (flatA (l.map evL)) 34).cell _ ?_
  have hj : j < 7 := by
    have := (List.getElem?_eq_some_iff.1 hv).1
    simpa [evL] using this
  have hl : ∀ r ∈ l.map evL, r.length = 7 := by
    intro r hr
    obtain ⟨e, -, rfl⟩ := List.mem_map.1 hr
    rfl
  rw [Nat.zero_add, flatA_get hl k j (by simpa using hk) hj, List.getElem_map]
  exact hv
inductive Want where
  | ev (e : Ev)
  | sl (l : List Ev)
  | tr (l : List Ev)
  | bo (b : Bool)
def Is (x : Want) (v : Value) (w : World) : Prop :=
  match x with
  | .ev e => v = evA e
  | .sl l => ∃ a cap, v = .slice a l.length cap ∧ EvsAt w a l
  | .tr l => ∃ a cap, v = trA 3 4 2 a l.length cap ∧ EvsAt w a l
  | .bo b => v = .bool b
theorem Is.below {x : Want} {v : Value} {w w' : World} (h : Is x v w) (hb : Below w.heap.size w w') : Is x v w' := by
  cases x with
  | ev e => exact h
  | sl l => obtain ⟨a, cap, h1, h2⟩ := h; exact ⟨a, cap, h1, h2.below hb⟩
  | tr l => obtain ⟨a, cap, h1, h2⟩ := h; exact ⟨a, cap, h1, h2.below hb⟩
  | bo b => exact h
set_option maxRecDepth 100000 in
set_option maxHeartbeats 4000000 in
theorem writes_any (v : Int) (w : World) (h1 : 0 ≤ v) (h2 : v ≤ 1000) : Calls Tryd.prog 25 #[.int .i64 v] w fun e w' => (∃ a cap, e = .returned (.slice a 6 cap) ∧ EvsAt w' a [evK 1 0 v, evK 4 0 0, evK 5 0 (v + 1), evK 7 0 (v + 1), evK 8 0 0, evK 9 0 0]) ∧ Below w.heap.size w w' := by
  have HA : Hid ([evK 1 0 v, evK 4 0 0, evK 5 0 (v + 1), evK 7 0 (v + 1), evK 8 0 0, evK 9 0 0].all evOkB = true) := hid (by
    simp only [List.all_cons, List.all_nil, Bool.and_true, Bool.and_eq_true, evOkB, evK, decide_eq_true_eq]
    omega)
  have j : IntKind.i64.wrap (v + 1) = v + 1 := IntWalk.i64_in _ (by omega)
  clear h1 h2
  go_enter Tryd.func25, Tryd.ntmps25
  go_wp2_with fail
  refine (ev_any 1 0 v _).mono ?_
  rintro e' w1 ⟨rfl, hb1⟩
  go_wp2_with fail
  refine (ev_any 4 0 0 _).mono ?_
  rintro e' w2 ⟨rfl, hb2⟩
  go_wp2_with fail
  refine (ev_any 5 0 (v + 1) _).mono ?_
  rintro e' w3 ⟨rfl, hb3⟩
  go_wp2_with fail
  refine (ev_any 7 0 (v + 1) _).mono ?_
  rintro e' w4 ⟨rfl, hb4⟩
  go_wp2_with fail
  refine (ev_any 8 0 0 _).mono ?_
  rintro e' w5 ⟨rfl, hb5⟩
  go_wp2_with fail
  refine (ev_any 9 0 0 _).mono ?_
  rintro e' w6 ⟨rfl, hb6⟩
  have HB := hid (ext_trans (ext_trans (ext_trans (ext_trans (ext_trans hb1 hb2) hb3) hb4) hb5) hb6)
  clear hb1 hb2 hb3 hb4 hb5 hb6
  simp only [evA, evK]
  go_wp2_with fail
  go_ret
  exact ⟨⟨_, _, rfl, evs_new w6 [evK 1 0 v, evK 4 0 0, evK 5 0 (v + 1), evK 7 0 (v + 1), evK 8 0 0, evK 9 0 0] HA.out⟩, ext_alloc HB.out _⟩
def e0 : Ev := evK 1 0 0
def worksW : List Want := [.ev e0, .ev (evK 7 0 0), .sl [e0, (evK 7 0 0)], .tr [e0, (evK 7 0 0)], .bo true, .bo true, .ev e0, .ev (evK 2 0 0), .ev (evK 3 2 0), .ev (evK 4 0 0), .ev (evK 5 0 1), .ev (evK 7 0 1), .sl [e0, (evK 2 0 0), (evK 3 2 0), (evK 4 0 0), (evK 5 0 1), (evK 7 0 1)], .tr [e0, (evK 2 0 0), (evK 3 2 0), (evK 4 0 0), (evK 5 0 1), (evK 7 0 1)], .bo true, .bo true, .bo true, .ev (evK 2 0 0), .sl [(evK 2 0 0)], .bo true, .bo true, .bo true, .ev e0, .ev e0, .ev (byK 1 e0), .ev (evK 4 0 0), .ev (evK 4 0 0), .ev (byK 1 (evK 4 0 0)), .sl [e0, (byK 1 e0), (evK 4 0 0), (byK 1 (evK 4 0 0))], .bo true, .bo true, .bo true, .sl [evK 1 0 0, evK 4 0 0, evK 5 0 (0 + 1), evK 7 0 (0 + 1), evK 8 0 0, evK 9 0 0], .tr [evK 1 0 0, evK 4 0 0, evK 5 0 (0 + 1), evK 7 0 (0 + 1), evK 8 0 0, evK 9 0 0], .bo true, .bo true, .bo true]
set_option maxRecDepth 100000 in
set_option maxHeartbeats 4000000 in
theorem works_any (w : World) (hK : KindsAt w) (hT : TabOk w) : Calls Tryd.prog 12 #[] w fun e w' => e = .returned (.bool true) ∧ Below w.heap.size w w' := by
  have HK := hid hK
  have HT := hid hT
  clear hK hT
  go_enter Tryd.func12, Tryd.ntmps12
  go_wp2_with fail
  refine (ev_any 1 0 0 _).mono ?_
  rintro e' w1 ⟨rfl, hb1⟩
  simp only [evA, evK]
  go_wp2_with fail
  have HE0 : Hid (Blk (w1.alloc (.cells #[.int .u8 1, .int .i64 0, .int .i64 0, .int .i64 0, .int .i64 0, .int .i64 0, .int .u8 0] 34)) w1.heap.size (evC e0) 34) := hid (Blk.new _ _ _)
  have HW1 : Hid (Below w.heap.size w (w1.alloc (.cells #[.int .u8 1, .int .i64 0, .int .i64 0, .int .i64 0, .int .i64 0, .int .i64 0, .int .u8 0] 34))) := hid (ext_alloc hb1 _)
  generalize w1.alloc (.cells #[.int .u8 1, .int .i64 0, .int .i64 0, .int .i64 0, .int .i64 0, .int .i64 0, .int .u8 0] 34) = W at HE0 HW1 ⊢
  have HKW := hid (HK.out.below HW1.out)
  have HTW := hid (HT.out.below HW1.out)
  refine wp_region_ops (by kernel_rfl) (by kernel_rfl) (by kernel_rfl) (by kernel_rfl) (fun i => Is (worksW.getD i (.bo true))) (fun w' => Below W.heap.size W w') (fun w1 w2 => Below w1.heap.size w1 w2) ?_ (by kernel_rfl) (fun i v w w' h g => h.below g) (ext_drew (ext_refl _)) ?_ ?_
  · intro i o hio
    match i with
    | 0 => obtain rfl := Option.some.inj hio; exact trivial
    | 1 => obtain rfl := Option.some.inj hio; exact trivial
    | 2 => obtain rfl := Option.some.inj hio; exact trivial
    | 3 => obtain rfl := Option.some.inj hio; exact trivial
    | 4 => obtain rfl := Option.some.inj hio; exact trivial
    | 5 => obtain rfl := Option.some.inj hio; exact trivial
    | 6 => obtain rfl := Option.some.inj hio; exact fun v w h => h
    | 7 => obtain rfl := Option.some.inj hio; exact fun v w h => h
    | 8 => obtain rfl := Option.some.inj hio; exact fun v w h => h
    | 9 => obtain rfl := Option.some.inj hio; exact fun v w h => h
    | 10 => obtain rfl := Option.some.inj hio; exact fun v w h => h
    | 11 => obtain rfl := Option.some.inj hio; exact fun v w h => h
    | 12 => obtain rfl := Option.some.inj hio; exact fun v w h => h
    | 13 => obtain rfl := Option.some.inj hio; exact fun v w h => h
    | 14 => obtain rfl := Option.some.inj hio; exact fun v w h => h
    | 15 => obtain rfl := Option.some.inj hio; exact trivial
    | 16 => obtain rfl := Option.some.inj hio; exact trivial
    | 17 => obtain rfl := Option.some.inj hio; exact fun v w h => h
    | 18 => obtain rfl := Option.some.inj hio; exact fun v w h => h
    | 19 => obtain rfl := Option.some.inj hio; exact fun v w h => h
    | 20 => obtain rfl := Option.some.inj hio; exact trivial
    | 21 => obtain rfl := Option.some.inj hio; exact trivial
    | 22 => obtain rfl := Option.some.inj hio; exact fun v w h => h
    | 23 => obtain rfl := Option.some.inj hio; exact fun v w h => h
    | 24 => obtain rfl := Option.some.inj hio; exact fun v w h => h
    | 25 => obtain rfl := Option.some.inj hio; exact fun v w h => h
    | 26 => obtain rfl := Option.some.inj hio; exact fun v w h => h
    | 27 => obtain rfl := Option.some.inj hio; exact fun v w h => h
    | 28 => obtain rfl := Option.some.inj hio; exact fun v w h => h
    | 29 => obtain rfl := Option.some.inj hio; exact fun v w h => h
    | 30 => obtain rfl := Option.some.inj hio; exact trivial
    | 31 => obtain rfl := Option.some.inj hio; exact trivial
    | 32 => obtain rfl := Option.some.inj hio; exact fun v w h => h
    | 33 => obtain rfl := Option.some.inj hio; exact fun v w h => h
    | 34 => obtain rfl := Option.some.inj hio; exact fun v w h => h
    | 35 => obtain rfl := Option.some.inj hio; exact trivial
    | 36 => obtain rfl := Option.some.inj hio; exact trivial
    | n + 37 => exact absurd (Array.getElem?_eq_some_iff.1 hio).1 (by simp)
  · intro i o hio ρ w' hG hc hg hf hv hfar
    match i with
    | 0 =>
      obtain rfl := Option.some.inj hio
      unfold OpY
      have f1 : ρ (.tmp 1) = .pointer (some ⟨w1.heap.size, 0, none⟩) := hfar 1 (by kernel_rfl)
      have d := HE0.out.below hG
      have d0 := d.cell 0 rfl
      have d1 := d.cell 1 rfl
      have d2 := d.cell 2 rfl
      have d3 := d.cell 3 rfl
      have d4 := d.cell 4 rfl
      have d5 := d.cell 5 rfl
      have d6 := d.cell 6 rfl
      simp only [evC, e0, evK] at d0 d1 d2 d3 d4 d5 d6
      clear d
      clear hv hfar
      go_simp
      exact ⟨rfl, hG, ext_refl _⟩
    | 1 =>
      obtain rfl := Option.some.inj hio
      unfold OpY
      clear hv hfar
      go_simp
      unfold OpR
      refine (ev_any (7) (0) (0) w').mono ?_
      rintro e' w2 ⟨rfl, hb⟩
      exact ⟨_, rfl, rfl, ext_trans hG hb, hb⟩
    | 2 =>
      obtain rfl := Option.some.inj hio
      unfold OpY
      have v0 : ρ (.tmp 3) = evA e0 := hv 0 3 (by kernel_rfl) rfl
      have v1 : ρ (.tmp 4) = evA (evK 7 0 0) := hv 1 4 (by kernel_rfl) rfl
      simp only [evA, e0, evK, byK] at v0 v1
      clear hv hfar
      go_simp
      exact ⟨⟨_, _, rfl, evs_new w' [e0, (evK 7 0 0)] (by kernel_rfl)⟩, ext_alloc hG _, ext_alloc (ext_refl _) _⟩
    | 3 =>
      obtain rfl := Option.some.inj hio
      unfold OpY
      obtain ⟨a2, cap2, v2, m2⟩ : Is (.sl [e0, (evK 7 0 0)]) (ρ (.tmp 5)) w' := hv 2 5 (by kernel_rfl) rfl
      clear hv hfar
      go_simp
      unfold OpR
      refine (over_any a2 _ cap2 w').mono ?_
      rintro e' w2 ⟨rfl, hb⟩
      exact ⟨_, rfl, ⟨_, _, rfl, m2.below hb⟩, ext_trans hG hb, hb⟩
    | 4 =>
      obtain rfl := Option.some.inj hio
      unfold OpY
      obtain ⟨a3, cap3, v3, m3⟩ : Is (.tr [e0, (evK 7 0 0)]) (ρ (.tmp 6)) w' := hv 3 6 (by kernel_rfl) rfl
      dsimp only [trA] at v3
      clear hv hfar
      go_simp
      unfold OpR
      refine (fine_any 3 4 2 a3 [e0, (evK 7 0 0)] cap3 w' m3 (by decide) (HKW.out.below hG) (HTW.out.below hG)).mono ?_
      rintro e' w2 ⟨rfl, hb⟩
      have ht : (fineT 3 4 2 [e0, (evK 7 0 0)]) = true := by kernel_rfl
      exact ⟨_, rfl, congrArg Value.bool ht, ext_trans hG hb, hb⟩
    | 5 =>
      obtain rfl := Option.some.inj hio
      unfold OpY
      have v4 : ρ (.tmp 7) = .bool true := hv 4 7 (by kernel_rfl) rfl
      clear hv hfar
      go_simp
      exact ⟨rfl, hG, ext_refl _⟩
    | 6 =>
      obtain rfl := Option.some.inj hio
      unfold OpY
      have f1 : ρ (.tmp 1) = .pointer (some ⟨w1.heap.size, 0, none⟩) := hfar 1 (by kernel_rfl)
      have d := HE0.out.below hG
      have d0 := d.cell 0 rfl
      have d1 := d.cell 1 rfl
      have d2 := d.cell 2 rfl
      have d3 := d.cell 3 rfl
      have d4 := d.cell 4 rfl
      have d5 := d.cell 5 rfl
      have d6 := d.cell 6 rfl
      simp only [evC, e0, evK] at d0 d1 d2 d3 d4 d5 d6
      clear d
      clear hv hfar
      go_simp
      exact ⟨rfl, hG, ext_refl _⟩
    | 7 =>
      obtain rfl := Option.some.inj hio
      unfold OpY
      clear hv hfar
      go_simp
      unfold OpR
      refine (ev_any (2) (0) (0) w').mono ?_
      rintro e' w2 ⟨rfl, hb⟩
      exact ⟨_, rfl, rfl, ext_trans hG hb, hb⟩
    | 8 =>
      obtain rfl := Option.some.inj hio
      unfold OpY
      clear hv hfar
      go_simp
      unfold OpR
      refine (ev_any (3) (2) (0) w').mono ?_
      rintro e' w2 ⟨rfl, hb⟩
      exact ⟨_, rfl, rfl, ext_trans hG hb, hb⟩
    | 9 =>
      obtain rfl := Option.some.inj hio
      unfold OpY
      clear hv hfar
      go_simp
      unfold OpR
      refine (ev_any (4) (0) (0) w').mono ?_
      rintro e' w2 ⟨rfl, hb⟩
      exact ⟨_, rfl, rfl, ext_trans hG hb, hb⟩
    | 10 =>
      obtain rfl := Option.some.inj hio
      unfold OpY
      clear hv hfar
      go_simp
      unfold OpR
      refine (ev_any (5) (0) (1) w').mono ?_
      rintro e' w2 ⟨rfl, hb⟩
      exact ⟨_, rfl, rfl, ext_trans hG hb, hb⟩
    | 11 =>
      obtain rfl := Option.some.inj hio
      unfold OpY
      clear hv hfar
      go_simp
      unfold OpR
      refine (ev_any (7) (0) (1) w').mono ?_
      rintro e' w2 ⟨rfl, hb⟩
      exact ⟨_, rfl, rfl, ext_trans hG hb, hb⟩
    | 12 =>
      obtain rfl := Option.some.inj hio
      unfold OpY
      have v6 : ρ (.tmp 9) = evA e0 := hv 6 9 (by kernel_rfl) rfl
      have v7 : ρ (.tmp 10) = evA (evK 2 0 0) := hv 7 10 (by kernel_rfl) rfl
      have v8 : ρ (.tmp 11) = evA (evK 3 2 0) := hv 8 11 (by kernel_rfl) rfl
      have v9 : ρ (.tmp 12) = evA (evK 4 0 0) := hv 9 12 (by kernel_rfl) rfl
      have v10 : ρ (.tmp 13) = evA (evK 5 0 1) := hv 10 13 (by kernel_rfl) rfl
      have v11 : ρ (.tmp 14) = evA (evK 7 0 1) := hv 11 14 (by kernel_rfl) rfl
      simp only [evA, e0, evK, byK] at v6 v7 v8 v9 v10 v11
      clear hv hfar
      go_simp
      exact ⟨⟨_, _, rfl, evs_new w' [e0, (evK 2 0 0), (evK 3 2 0), (evK 4 0 0), (evK 5 0 1), (evK 7 0 1)] (by kernel_rfl)⟩, ext_alloc hG _, ext_alloc (ext_refl _) _⟩
    | 13 =>
      obtain rfl := Option.some.inj hio
      unfold OpY
      obtain ⟨a12, cap12, v12, m12⟩ : Is (.sl [e0, (evK 2 0 0), (evK 3 2 0), (evK 4 0 0), (evK 5 0 1), (evK 7 0 1)]) (ρ (.tmp 15)) w' := hv 12 15 (by kernel_rfl) rfl
      clear hv hfar
      go_simp
      unfold OpR
      refine (over_any a12 _ cap12 w').mono ?_
      rintro e' w2 ⟨rfl, hb⟩
      exact ⟨_, rfl, ⟨_, _, rfl, m12.below hb⟩, ext_trans hG hb, hb⟩
    | 14 =>
      obtain rfl := Option.some.inj hio
      unfold OpY
      obtain ⟨a13, cap13, v13, m13⟩ : Is (.tr [e0, (evK 2 0 0), (evK 3 2 0), (evK 4 0 0), (evK 5 0 1), (evK 7 0 1)]) (ρ (.tmp 16)) w' := hv 13 16 (by kernel_rfl) rfl
      dsimp only [trA] at v13
      clear hv hfar
      go_simp
      unfold OpR
      refine (fine_any 3 4 2 a13 [e0, (evK 2 0 0), (evK 3 2 0), (evK 4 0 0), (evK 5 0 1), (evK 7 0 1)] cap13 w' m13 (by decide) (HKW.out.below hG) (HTW.out.below hG)).mono ?_
      rintro e' w2 ⟨rfl, hb⟩
      have ht : (fineT 3 4 2 [e0, (evK 2 0 0), (evK 3 2 0), (evK 4 0 0), (evK 5 0 1), (evK 7 0 1)]) = true := by kernel_rfl
      exact ⟨_, rfl, congrArg Value.bool ht, ext_trans hG hb, hb⟩
    | 15 =>
      obtain rfl := Option.some.inj hio
      unfold OpY
      have v5 : ρ (.tmp 8) = .bool true := hv 5 8 (by kernel_rfl) rfl
      have v14 : ρ (.tmp 17) = .bool true := hv 14 17 (by kernel_rfl) rfl
      clear hv hfar
      go_simp
      exact ⟨rfl, hG, ext_refl _⟩
    | 16 =>
      obtain rfl := Option.some.inj hio
      unfold OpY
      have v15 : ρ (.tmp 18) = .bool true := hv 15 18 (by kernel_rfl) rfl
      clear hv hfar
      go_simp
      exact ⟨rfl, hG, ext_refl _⟩
    | 17 =>
      obtain rfl := Option.some.inj hio
      unfold OpY
      clear hv hfar
      go_simp
      unfold OpR
      refine (ev_any (2) (0) (0) w').mono ?_
      rintro e' w2 ⟨rfl, hb⟩
      exact ⟨_, rfl, rfl, ext_trans hG hb, hb⟩
    | 18 =>
      obtain rfl := Option.some.inj hio
      unfold OpY
      have v17 : ρ (.tmp 20) = evA (evK 2 0 0) := hv 17 20 (by kernel_rfl) rfl
      simp only [evA, e0, evK, byK] at v17
      clear hv hfar
      go_simp
      exact ⟨⟨_, _, rfl, evs_new w' [(evK 2 0 0)] (by kernel_rfl)⟩, ext_alloc hG _, ext_alloc (ext_refl _) _⟩
    | 19 =>
      obtain rfl := Option.some.inj hio
      unfold OpY
      obtain ⟨a18, cap18, v18, m18⟩ : Is (.sl [(evK 2 0 0)]) (ρ (.tmp 21)) w' := hv 18 21 (by kernel_rfl) rfl
      clear hv hfar
      go_simp
      unfold OpR
      refine (bad_any a18 [(evK 2 0 0)] cap18 w' m18 (by decide) (by decide) (HKW.out.below hG) (HTW.out.below hG)).mono ?_
      rintro e' w2 ⟨rfl, hb⟩
      have ht : (badT [(evK 2 0 0)]) = true := by kernel_rfl
      exact ⟨_, rfl, congrArg Value.bool ht, ext_trans hG hb, hb⟩
    | 20 =>
      obtain rfl := Option.some.inj hio
      unfold OpY
      have v16 : ρ (.tmp 19) = .bool true := hv 16 19 (by kernel_rfl) rfl
      have v19 : ρ (.tmp 22) = .bool true := hv 19 22 (by kernel_rfl) rfl
      clear hv hfar
      go_simp
      exact ⟨rfl, hG, ext_refl _⟩
    | 21 =>
      obtain rfl := Option.some.inj hio
      unfold OpY
      have v20 : ρ (.tmp 23) = .bool true := hv 20 23 (by kernel_rfl) rfl
      clear hv hfar
      go_simp
      exact ⟨rfl, hG, ext_refl _⟩
    | 22 =>
      obtain rfl := Option.some.inj hio
      unfold OpY
      have f1 : ρ (.tmp 1) = .pointer (some ⟨w1.heap.size, 0, none⟩) := hfar 1 (by kernel_rfl)
      have d := HE0.out.below hG
      have d0 := d.cell 0 rfl
      have d1 := d.cell 1 rfl
      have d2 := d.cell 2 rfl
      have d3 := d.cell 3 rfl
      have d4 := d.cell 4 rfl
      have d5 := d.cell 5 rfl
      have d6 := d.cell 6 rfl
      simp only [evC, e0, evK] at d0 d1 d2 d3 d4 d5 d6
      clear d
      clear hv hfar
      go_simp
      exact ⟨rfl, hG, ext_refl _⟩
    | 23 =>
      obtain rfl := Option.some.inj hio
      unfold OpY
      have f1 : ρ (.tmp 1) = .pointer (some ⟨w1.heap.size, 0, none⟩) := hfar 1 (by kernel_rfl)
      have d := HE0.out.below hG
      have d0 := d.cell 0 rfl
      have d1 := d.cell 1 rfl
      have d2 := d.cell 2 rfl
      have d3 := d.cell 3 rfl
      have d4 := d.cell 4 rfl
      have d5 := d.cell 5 rfl
      have d6 := d.cell 6 rfl
      simp only [evC, e0, evK] at d0 d1 d2 d3 d4 d5 d6
      clear d
      clear hv hfar
      go_simp
      exact ⟨rfl, hG, ext_refl _⟩
    | 24 =>
      obtain rfl := Option.some.inj hio
      unfold OpY
      have v23 : ρ (.tmp 26) = evA e0 := hv 23 26 (by kernel_rfl) rfl
      clear hv hfar
      go_simp
      unfold OpR
      refine (by_any 1 e0 w').mono ?_
      rintro e' w2 ⟨rfl, hb⟩
      exact ⟨_, rfl, rfl, ext_trans hG hb, hb⟩
    | 25 =>
      obtain rfl := Option.some.inj hio
      unfold OpY
      clear hv hfar
      go_simp
      unfold OpR
      refine (ev_any (4) (0) (0) w').mono ?_
      rintro e' w2 ⟨rfl, hb⟩
      exact ⟨_, rfl, rfl, ext_trans hG hb, hb⟩
    | 26 =>
      obtain rfl := Option.some.inj hio
      unfold OpY
      clear hv hfar
      go_simp
      unfold OpR
      refine (ev_any (4) (0) (0) w').mono ?_
      rintro e' w2 ⟨rfl, hb⟩
      exact ⟨_, rfl, rfl, ext_trans hG hb, hb⟩
    | 27 =>
      obtain rfl := Option.some.inj hio
      unfold OpY
      have v26 : ρ (.tmp 29) = evA (evK 4 0 0) := hv 26 29 (by kernel_rfl) rfl
      clear hv hfar
      go_simp
      unfold OpR
      refine (by_any 1 (evK 4 0 0) w').mono ?_
      rintro e' w2 ⟨rfl, hb⟩
      exact ⟨_, rfl, rfl, ext_trans hG hb, hb⟩
    | 28 =>
      obtain rfl := Option.some.inj hio
      unfold OpY
      have v22 : ρ (.tmp 25) = evA e0 := hv 22 25 (by kernel_rfl) rfl
      have v24 : ρ (.tmp 27) = evA (byK 1 e0) := hv 24 27 (by kernel_rfl) rfl
      have v25 : ρ (.tmp 28) = evA (evK 4 0 0) := hv 25 28 (by kernel_rfl) rfl
      have v27 : ρ (.tmp 30) = evA (byK 1 (evK 4 0 0)) := hv 27 30 (by kernel_rfl) rfl
      simp only [evA, e0, evK, byK] at v22 v24 v25 v27
      clear hv hfar
      go_simp
      exact ⟨⟨_, _, rfl, evs_new w' [e0, (byK 1 e0), (evK 4 0 0), (byK 1 (evK 4 0 0))] (by kernel_rfl)⟩, ext_alloc hG _, ext_alloc (ext_refl _) _⟩
    | 29 =>
      obtain rfl := Option.some.inj hio
      unfold OpY
      obtain ⟨a28, cap28, v28, m28⟩ : Is (.sl [e0, (byK 1 e0), (evK 4 0 0), (byK 1 (evK 4 0 0))]) (ρ (.tmp 31)) w' := hv 28 31 (by kernel_rfl) rfl
      clear hv hfar
      go_simp
      unfold OpR
      refine (bad_any a28 [e0, (byK 1 e0), (evK 4 0 0), (byK 1 (evK 4 0 0))] cap28 w' m28 (by decide) (by decide) (HKW.out.below hG) (HTW.out.below hG)).mono ?_
      rintro e' w2 ⟨rfl, hb⟩
      have ht : (badT [e0, (byK 1 e0), (evK 4 0 0), (byK 1 (evK 4 0 0))]) = true := by kernel_rfl
      exact ⟨_, rfl, congrArg Value.bool ht, ext_trans hG hb, hb⟩
    | 30 =>
      obtain rfl := Option.some.inj hio
      unfold OpY
      have v21 : ρ (.tmp 24) = .bool true := hv 21 24 (by kernel_rfl) rfl
      have v29 : ρ (.tmp 32) = .bool true := hv 29 32 (by kernel_rfl) rfl
      clear hv hfar
      go_simp
      exact ⟨rfl, hG, ext_refl _⟩
    | 31 =>
      obtain rfl := Option.some.inj hio
      unfold OpY
      have v30 : ρ (.tmp 33) = .bool true := hv 30 33 (by kernel_rfl) rfl
      clear hv hfar
      go_simp
      exact ⟨rfl, hG, ext_refl _⟩
    | 32 =>
      obtain rfl := Option.some.inj hio
      unfold OpY
      clear hv hfar
      go_simp
      unfold OpR
      refine (writes_any 0 w' (by decide) (by decide)).mono ?_
      rintro e' w2 ⟨⟨a, cap, rfl, he⟩, hb⟩
      exact ⟨_, rfl, ⟨_, _, rfl, he⟩, ext_trans hG hb, hb⟩
    | 33 =>
      obtain rfl := Option.some.inj hio
      unfold OpY
      obtain ⟨a32, cap32, v32, m32⟩ : Is (.sl [evK 1 0 0, evK 4 0 0, evK 5 0 (0 + 1), evK 7 0 (0 + 1), evK 8 0 0, evK 9 0 0]) (ρ (.tmp 35)) w' := hv 32 35 (by kernel_rfl) rfl
      clear hv hfar
      go_simp
      unfold OpR
      refine (over_any a32 _ cap32 w').mono ?_
      rintro e' w2 ⟨rfl, hb⟩
      exact ⟨_, rfl, ⟨_, _, rfl, m32.below hb⟩, ext_trans hG hb, hb⟩
    | 34 =>
      obtain rfl := Option.some.inj hio
      unfold OpY
      obtain ⟨a33, cap33, v33, m33⟩ : Is (.tr [evK 1 0 0, evK 4 0 0, evK 5 0 (0 + 1), evK 7 0 (0 + 1), evK 8 0 0, evK 9 0 0]) (ρ (.tmp 36)) w' := hv 33 36 (by kernel_rfl) rfl
      dsimp only [trA] at v33
      clear hv hfar
      go_simp
      unfold OpR
      refine (fine_any 3 4 2 a33 [evK 1 0 0, evK 4 0 0, evK 5 0 (0 + 1), evK 7 0 (0 + 1), evK 8 0 0, evK 9 0 0] cap33 w' m33 (by decide) (HKW.out.below hG) (HTW.out.below hG)).mono ?_
      rintro e' w2 ⟨rfl, hb⟩
      have ht : (fineT 3 4 2 [evK 1 0 0, evK 4 0 0, evK 5 0 (0 + 1), evK 7 0 (0 + 1), evK 8 0 0, evK 9 0 0]) = true := by kernel_rfl
      exact ⟨_, rfl, congrArg Value.bool ht, ext_trans hG hb, hb⟩
    | 35 =>
      obtain rfl := Option.some.inj hio
      unfold OpY
      have v31 : ρ (.tmp 34) = .bool true := hv 31 34 (by kernel_rfl) rfl
      have v34 : ρ (.tmp 37) = .bool true := hv 34 37 (by kernel_rfl) rfl
      clear hv hfar
      go_simp
      exact ⟨rfl, hG, ext_refl _⟩
    | 36 =>
      obtain rfl := Option.some.inj hio
      unfold OpY
      have v35 : ρ (.tmp 38) = .bool true := hv 35 38 (by kernel_rfl) rfl
      clear hv hfar
      go_simp
      exact ⟨rfl, hG, ext_refl _⟩
    | n + 37 => exact absurd (Array.getElem?_eq_some_iff.1 hio).1 (by simp)
  · intro vals w' hG hV
    have v36 : vals 36 = .bool true := hV 36 (by decide)
    have HE := hid (ext_trans HW1.out hG)
    clear hV
    simp [putAll, dstOf, Act.put, v36]
    go_wp2_with fail
    go_ret
    exact ⟨rfl, HE.out⟩
end Go.Proofs.YtmgchpijkdammaaDoor
