/-
  Walk: the document's May.
-/
import Derived.Test.YtokkafiphchejaaDoorEvR2
import Derived.Test.YtokkafiphchejaaDoorShQ
namespace Go.Proofs.YtokkafiphchejaaDoor
set_option linter.unusedVariables false
set_option linter.unusedSimpArgs false
open Go Go.RowKit
/-- The document's test behind that of the sizes. -/
def rtest (e : Ev) (T : Int) : Bool := ((((((((nameT e.kind == []) || decide (e.th < 0)) || decide (T ≤ e.th)) || !evEqB (bareE e) e) || decide (e.tx < 0)) || decide (6 ≤ e.tx)) || decide (e.v < 0)) || decide (1099511627776 < e.v)) || decide (e.at_ < 0)
/-- The document's last test, by Kinds. -/
def rlast (e : Ev) (V S : Int) : Bool := if e.kind = 3 ∨ e.kind = 8 then decide (e.at_ < V) else if e.kind = 5 then decide (1 ≤ e.v) else if e.kind = 10 then ((decide (1 ≤ e.why) && decide (e.why ≤ 6)) && decide (e.at_ < S)) && (!(e.why == 6) || (e.at_ == 0)) else decide (e.at_ < S)
theorem rsizes (T V S : Int) : sizesB T V S = !(((((decide (T < 1) || decide (6 < T)) || decide (V < 1)) || decide (32 < V)) || decide (S < 1)) || decide (V < S)) := by
  unfold sizesB
  by_cases h : 1 ≤ T ∧ T ≤ 6 ∧ 1 ≤ V ∧ V ≤ 32 ∧ 1 ≤ S ∧ S ≤ V
  · rw [decide_eq_true h]
    simp; omega
  · rw [decide_eq_false h]
    symm
    simp
    omega
theorem nameT_nil (k : Int) (hk : 0 ≤ k ∧ k ≤ 255) : (nameT k == []) = !inB k 1 13 := by
  unfold nameT
  cases hb : inB k 1 13 with
  | false => rfl
  | true =>
    have h : 1 ≤ k ∧ k ≤ 13 := by simpa [inB] using hb
    obtain ⟨n, rfl⟩ := Int.eq_ofNat_of_zero_le hk.1
    have key : ∀ a : Fin 14, 1 ≤ a.val → (kindName (a.val : Int) == []) = false := by decide
    rw [if_pos rfl]
    exact key ⟨n, by omega⟩ (by show 1 ≤ n; omega)
theorem rmay_is (e : Ev) (T V S : Int) (hk : 0 ≤ e.kind ∧ e.kind ≤ 255) : mayE e T V S = (sizesB T V S && (!rtest e T && rlast e V S)) := by
  cases hs : sizesB T V S with
  | false => unfold mayE; rw [hs]; rfl
  | true =>
    have hsz : 1 ≤ T ∧ T ≤ 6 ∧ 1 ≤ V ∧ V ≤ 32 ∧ 1 ≤ S ∧ S ≤ V := by simpa [sizesB] using hs
    rw [Bool.true_and]
    by_cases hb : e = bareE e
    · have he : evEqB (bareE e) e = true := by rw [← hb]; simp [evEqB]
      rw [Bool.eq_iff_iff]
      unfold rtest mayE rlast
      rw [he, nameT_nil _ hk, hs]
      obtain ⟨kind, th, tx, at_, v, x, why⟩ := e
      unfold bareE at hb
      dsimp only at hb hk ⊢
      have hd : decide (kind = (bareE ⟨kind, th, tx, at_, v, x, why⟩).kind ∧ th = (bareE ⟨kind, th, tx, at_, v, x, why⟩).th ∧ tx = (bareE ⟨kind, th, tx, at_, v, x, why⟩).tx ∧ at_ = (bareE ⟨kind, th, tx, at_, v, x, why⟩).at_ ∧ v = (bareE ⟨kind, th, tx, at_, v, x, why⟩).v ∧ x = (bareE ⟨kind, th, tx, at_, v, x, why⟩).x ∧ why = (bareE ⟨kind, th, tx, at_, v, x, why⟩).why) = true := by
        rw [decide_eq_true_iff]
        have hb' : (⟨kind, th, tx, at_, v, x, why⟩ : Ev) = bareE ⟨kind, th, tx, at_, v, x, why⟩ := hb
        rw [← hb']
        exact ⟨rfl, rfl, rfl, rfl, rfl, rfl, rfl⟩
      rw [hd]
      unfold placesE leastV inB
      dsimp only
      by_cases k5 : kind = 5
      · subst k5
        simp at hb ⊢
        omega
      by_cases k3 : kind = 3 ∨ kind = 8
      · have k10 : ¬ kind = 10 := by omega
        simp [k5, k3, k10]
        omega
      by_cases k10 : kind = 10
      · subst k10
        by_cases y : why = 6
        · subst y; simp; omega
        · simp [y]; omega
      · simp [k5, k3, k10]
        omega
    · have he : evEqB (bareE e) e = false := by
        unfold evEqB
        rw [decide_eq_false_iff_not]
        rintro ⟨h1, h2, h3, h4, h5, h6, h7⟩
        exact hb (Ev.ext' h1.symm h2.symm h3.symm h4.symm h5.symm h6.symm h7.symm)
      have hm : mayE e T V S = false := by
        unfold mayE
        rw [Bool.and_eq_false_iff]
        right
        rw [decide_eq_false_iff_not]
        rintro ⟨h1, h2, h3, h4, h5, h6, h7⟩
        exact hb (Ev.ext' h1 h2 h3 h4 h5 h6 h7)
      rw [hm]
      unfold rtest
      rw [he]
      simp
set_option maxRecDepth 100000 in
set_option maxHeartbeats 4000000 in
theorem rmay_any (e : Ev) (T V S : Int) (w : World) (he : EvOk e) (hN : NamesR w) :
    Calls Tryd.prog 64 #[evA e, .int .i64 T, .int .i64 V, .int .i64 S] w fun e' w' => e' = .returned (.bool (mayE e T V S)) ∧ Below w.heap.size w w' := by
  rw [rmay_is e T V S he.1]
  obtain ⟨kind, th, tx, at_, v, x, why⟩ := e
  have hk : 0 ≤ kind ∧ kind ≤ 255 := he.1
  have HB : Hid (Below w.heap.size w (w.alloc (.cells #[.int .u8 kind, .int .i64 th, .int .i64 tx, .int .i64 at_, .int .i64 v, .int .i64 x, .int .u8 why] 33))) := hid (ext_alloc (ext_refl _) _)
  have HE : Hid (Blk (w.alloc (.cells #[.int .u8 kind, .int .i64 th, .int .i64 tx, .int .i64 at_, .int .i64 v, .int .i64 x, .int .u8 why] 33)) w.heap.size #[.int .u8 kind, .int .i64 th, .int .i64 tx, .int .i64 at_, .int .i64 v, .int .i64 x, .int .u8 why] 33) := hid (Blk.new _ _ _)
  have HBA := hid (fun W => rbare_any ⟨kind, th, tx, at_, v, x, why⟩ W)
  have HCMP := hid (run_eql_ev (bareE ⟨kind, th, tx, at_, v, x, why⟩) ⟨kind, th, tx, at_, v, x, why⟩)
  unfold Op.equal Op.maxDepth at HCMP
  have HNA0 := hid (fun W (hW : Below w.heap.size w W) => rname_any kind hk W (hN.below hW))
  unfold RBareP at HBA
  dsimp only [evA] at HBA ⊢
  clear hN he hk
  rw [rsizes]
  obtain ⟨s0, hs0⟩ : ∃ s, (((((decide (T < 1) || decide (6 < T)) || decide (V < 1)) || decide (32 < V)) || decide (S < 1)) || decide (V < S)) = s := ⟨_, rfl⟩
  rw [hs0]
  cases s0
  case true =>
    go_enter Tryd.func64, Tryd.ntmps64
    by_cases a1 : T < 1
    · have a1 := decide_eq_true a1
      go_wp2_with fail
      go_ret
      exact ⟨rfl, HB.out⟩
    have a1 := decide_eq_false a1
    by_cases a2 : 6 < T
    · have a2 := decide_eq_true a2
      go_wp2_with fail
      go_ret
      exact ⟨rfl, HB.out⟩
    have a2 := decide_eq_false a2
    by_cases a3 : V < 1
    · have a3 := decide_eq_true a3
      go_wp2_with fail
      go_ret
      exact ⟨rfl, HB.out⟩
    have a3 := decide_eq_false a3
    by_cases a4 : 32 < V
    · have a4 := decide_eq_true a4
      go_wp2_with fail
      go_ret
      exact ⟨rfl, HB.out⟩
    have a4 := decide_eq_false a4
    by_cases a5 : S < 1
    · have a5 := decide_eq_true a5
      go_wp2_with fail
      go_ret
      exact ⟨rfl, HB.out⟩
    have a5 := decide_eq_false a5
    have a6 : decide (V < S) = true := by
      rw [a1, a2, a3, a4, a5] at hs0
      simpa using hs0
    go_wp2_with fail
    go_ret
    exact ⟨rfl, HB.out⟩
  case false =>
  simp only [Bool.or_eq_false_iff] at hs0
  obtain ⟨⟨⟨⟨⟨a1, a2⟩, a3⟩, a4⟩, a5⟩, a6⟩ := hs0
  rw [Bool.not_false, Bool.true_and]
  generalize hnm : nameT kind = nm at HNA0
  unfold strV at HNA0
  obtain ⟨eb, heb⟩ : ∃ b, evEqB (bareE ⟨kind, th, tx, at_, v, x, why⟩) ⟨kind, th, tx, at_, v, x, why⟩ = b := ⟨_, rfl⟩
  rw [heb] at HCMP
  obtain ⟨s1, HS1⟩ : ∃ s, Hid ((nm == []) = s) := ⟨_, hid rfl⟩
  obtain ⟨s2, Hs2⟩ : ∃ s, Hid (s = (s1 || decide (th < 0))) := ⟨_, hid rfl⟩
  obtain ⟨s3, Hs3⟩ : ∃ s, Hid (s = (s2 || decide (T ≤ th))) := ⟨_, hid rfl⟩
  obtain ⟨s4, Hs4⟩ : ∃ s, Hid (s = (s3 || !eb)) := ⟨_, hid rfl⟩
  obtain ⟨s5, Hs5⟩ : ∃ s, Hid (s = (s4 || decide (tx < 0))) := ⟨_, hid rfl⟩
  obtain ⟨s6, Hs6⟩ : ∃ s, Hid (s = (s5 || decide (6 ≤ tx))) := ⟨_, hid rfl⟩
  obtain ⟨s7, Hs7⟩ : ∃ s, Hid (s = (s6 || decide (v < 0))) := ⟨_, hid rfl⟩
  obtain ⟨s8, Hs8⟩ : ∃ s, Hid (s = (s7 || decide (1099511627776 < v))) := ⟨_, hid rfl⟩
  obtain ⟨s9, Hs9⟩ : ∃ s, Hid (s = (s8 || decide (at_ < 0))) := ⟨_, hid rfl⟩
  have hrt : rtest ⟨kind, th, tx, at_, v, x, why⟩ T = s9 := by
    rw [Hs9.out, Hs8.out, Hs7.out, Hs6.out, Hs5.out, Hs4.out, Hs3.out, Hs2.out, ← HS1.out, ← heb, ← hnm]
    rfl
  rw [hrt]
  obtain ⟨res, HRES⟩ : ∃ r, Hid ((!s9 && rlast ⟨kind, th, tx, at_, v, x, why⟩ V S) = r) := ⟨_, hid rfl⟩
  rw [HRES.out]
  have HNA := hid (fun W (hW : Below (w.alloc (.cells #[.int .u8 kind, .int .i64 th, .int .i64 tx, .int .i64 at_, .int .i64 v, .int .i64 x, .int .u8 why] 33)).heap.size (w.alloc (.cells #[.int .u8 kind, .int .i64 th, .int .i64 tx, .int .i64 at_, .int .i64 v, .int .i64 x, .int .u8 why] 33)) W) => HNA0.out W (ext_trans HB.out hW))
  have HNM := hid hnm
  have HEB := hid heb
  clear HNA0 hnm heb hrt
  go_enter Tryd.func64, Tryd.ntmps64
  go_wp2_with fail
  clear a1 a2 a3 a4 a5 a6
  generalize w.alloc (.cells #[.int .u8 kind, .int .i64 th, .int .i64 tx, .int .i64 at_, .int .i64 v, .int .i64 x, .int .u8 why] 33) = W1 at HB HE HNA ⊢
  apply wp_region_known (fun i => ([(.pointer (some ⟨w.heap.size, 0, none⟩)), (.int .u8 kind), (.string ⟨nm.toArray⟩), (.bool s1), (.bool s1), (WF s1 (.pointer (some ⟨w.heap.size, 1, none⟩))), (WF s1 (.int .i64 th)), (WF s1 (.bool (decide (th < 0)))), (.bool s2), (.bool s2), (WF s2 (.pointer (some ⟨w.heap.size, 1, none⟩))), (WF s2 (.int .i64 th)), (WF s2 (.int .i64 T)), (WF s2 (.bool (decide (T ≤ th)))), (.bool s3), (.bool s3), (WF s3 (.agg #[.int .u8 kind, .int .i64 th, .int .i64 tx, .int .i64 at_, .int .i64 v, .int .i64 x, .int .u8 why])), (WF s3 (.agg #[.int .u8 (bareE ⟨kind, th, tx, at_, v, x, why⟩).kind, .int .i64 (bareE ⟨kind, th, tx, at_, v, x, why⟩).th, .int .i64 (bareE ⟨kind, th, tx, at_, v, x, why⟩).tx, .int .i64 (bareE ⟨kind, th, tx, at_, v, x, why⟩).at_, .int .i64 (bareE ⟨kind, th, tx, at_, v, x, why⟩).v, .int .i64 (bareE ⟨kind, th, tx, at_, v, x, why⟩).x, .int .u8 (bareE ⟨kind, th, tx, at_, v, x, why⟩).why])), (WF s3 (.agg #[.int .u8 kind, .int .i64 th, .int .i64 tx, .int .i64 at_, .int .i64 v, .int .i64 x, .int .u8 why])), (WF s3 (.bool (!eb))), (.bool s4), (.bool s4), (WF s4 (.pointer (some ⟨w.heap.size, 2, none⟩))), (WF s4 (.int .i64 tx)), (WF s4 (.bool (decide (tx < 0)))), (.bool s5), (.bool s5), (WF s5 (.pointer (some ⟨w.heap.size, 2, none⟩))), (WF s5 (.int .i64 tx)), (WF s5 (.bool (decide (6 ≤ tx)))), (.bool s6), (.bool s6), (WF s6 (.pointer (some ⟨w.heap.size, 4, none⟩))), (WF s6 (.int .i64 v)), (WF s6 (.bool (decide (v < 0)))), (.bool s7), (.bool s7), (WF s7 (.pointer (some ⟨w.heap.size, 4, none⟩))), (WF s7 (.int .i64 v)), (WF s7 (.bool (decide (1099511627776 < v)))), (.bool s8), (.bool s8), (WF s8 (.pointer (some ⟨w.heap.size, 3, none⟩))), (WF s8 (.int .i64 at_)), (WF s8 (.bool (decide (at_ < 0)))), (.bool s9)] : List Value).getD i undef) (fun w' => Below W1.heap.size W1 w')
  focus (simp [putAll, dstOf, Act.put, List.getD]; rfl)
  case hm => kernel_rfl
  case hd => kernel_rfl
  case hb => kernel_rfl
  case hng => kernel_rfl
  case hsz => kernel_rfl
  case h0 => exact ext_drew (ext_refl _)
  case hstep =>
    refine ⟨?_, ?_, ?_, ?_, ?_, ?_, ?_, ?_, ?_, ?_, ?_, ?_, ?_, ?_, ?_, ?_, ?_, ?_, ?_, ?_, ?_, ?_, ?_, ?_, ?_, ?_, ?_, ?_, ?_, ?_, ?_, ?_, ?_, ?_, ?_, ?_, ?_, ?_, ?_, ?_, ?_, ?_, ?_, ?_, ?_, ?_, trivial⟩
    · refine ⟨(fun g b h => by cases h), fun w' hG hg ρ h1 h2 h3 h4 h5 => ?_⟩
      have hG := hid hG
      have f4 : ρ (.tmp 4) = .pointer (some ⟨w.heap.size, 0, none⟩) := h5 4 (by kernel_rfl)
      all_goals
        try dsimp only [WF, WT] at *
        clear h4 h5 hg
        unfold OpY
        go_simp
        first | exact ⟨rfl, hG.out⟩ | exact ⟨Or.inr rfl, hG.out⟩ | exact ⟨Or.inl rfl, hG.out⟩
    · refine ⟨(fun g b h => by cases h), fun w' hG hg ρ h1 h2 h3 h4 h5 => ?_⟩
      have hG := hid hG
      have f32 : ρ (.tmp 32) = (.pointer (some ⟨w.heap.size, 0, none⟩)) := h4 0 32 (by kernel_rfl) (by kernel_rfl)
      have c0 := (HE.out.below hG.out).cell 0 rfl
      all_goals
        try dsimp only [WF, WT] at *
        clear h4 h5 hg
        unfold OpY
        go_simp
        first | exact ⟨rfl, hG.out⟩ | exact ⟨Or.inr rfl, hG.out⟩ | exact ⟨Or.inl rfl, hG.out⟩
    · refine ⟨(fun g b h => by cases h), fun w' hG hg ρ h1 h2 h3 h4 h5 => ?_⟩
      have hG := hid hG
      have f33 : ρ (.tmp 33) = (.int .u8 kind) := h4 1 33 (by kernel_rfl) (by kernel_rfl)
      all_goals
        try dsimp only [WF, WT] at *
        clear h4 h5 hg
        unfold OpY
        go_simp
        unfold OpR
        refine (HNA.out _ hG.out).mono ?_
        rintro e' w1 ⟨rfl, rfl⟩
        first | exact ⟨_, rfl, rfl, hG.out⟩ | exact ⟨_, rfl, Or.inr rfl, hG.out⟩
    · refine ⟨(fun g b h => by cases h), fun w' hG hg ρ h1 h2 h3 h4 h5 => ?_⟩
      have hG := hid hG
      have f34 : ρ (.tmp 34) = (.string ⟨nm.toArray⟩) := h4 2 34 (by kernel_rfl) (by kernel_rfl)
      have e1 : (nm == []) = s1 := HS1.out
      all_goals
        try dsimp only [WF, WT] at *
        clear h4 h5 hg
        unfold OpY
        go_simp
        first | exact ⟨rfl, hG.out⟩ | exact ⟨Or.inr rfl, hG.out⟩ | exact ⟨Or.inl rfl, hG.out⟩
    · refine ⟨(fun g b h => by cases h), fun w' hG hg ρ h1 h2 h3 h4 h5 => ?_⟩
      have hG := hid hG
      have f35 : ρ (.tmp 35) = (.bool s1) := h4 3 35 (by kernel_rfl) (by kernel_rfl)
      all_goals
        try dsimp only [WF, WT] at *
        clear h4 h5 hg
        unfold OpY
        go_simp
        first | exact ⟨rfl, hG.out⟩ | exact ⟨Or.inr rfl, hG.out⟩ | exact ⟨Or.inl rfl, hG.out⟩
    · refine ⟨(fun g b h => by
          obtain ⟨rfl, rfl⟩ := Prod.mk.inj (Option.some.inj h)
          exact ⟨s1, rfl, fun h => by
            cases s1
            · first | rfl | exact absurd rfl h
            · first | rfl | exact absurd rfl h⟩), fun w' hG hg ρ h1 h2 h3 h4 h5 => ?_⟩
      have hG := hid hG
      have hs : Value.bool s1 = .bool false := hg 4 false rfl
      injection hs with hs
      subst hs
      have f4 : ρ (.tmp 4) = .pointer (some ⟨w.heap.size, 0, none⟩) := h5 4 (by kernel_rfl)
      all_goals
        try dsimp only [WF, WT] at *
        clear h4 h5 hg
        unfold OpY
        go_simp
        first | exact ⟨rfl, hG.out⟩ | exact ⟨Or.inr rfl, hG.out⟩ | exact ⟨Or.inl rfl, hG.out⟩
    · refine ⟨(fun g b h => by
          obtain ⟨rfl, rfl⟩ := Prod.mk.inj (Option.some.inj h)
          exact ⟨s1, rfl, fun h => by
            cases s1
            · first | rfl | exact absurd rfl h
            · first | rfl | exact absurd rfl h⟩), fun w' hG hg ρ h1 h2 h3 h4 h5 => ?_⟩
      have hG := hid hG
      have hs : Value.bool s1 = .bool false := hg 4 false rfl
      injection hs with hs
      subst hs
      have f37 : ρ (.tmp 37) = (WF false (.pointer (some ⟨w.heap.size, 1, none⟩))) := h4 5 37 (by kernel_rfl) (by kernel_rfl)
      have c1 := (HE.out.below hG.out).cell 1 rfl
      all_goals
        try dsimp only [WF, WT] at *
        clear h4 h5 hg
        unfold OpY
        go_simp
        first | exact ⟨rfl, hG.out⟩ | exact ⟨Or.inr rfl, hG.out⟩ | exact ⟨Or.inl rfl, hG.out⟩
    · refine ⟨(fun g b h => by
          obtain ⟨rfl, rfl⟩ := Prod.mk.inj (Option.some.inj h)
          exact ⟨s1, rfl, fun h => by
            cases s1
            · first | rfl | exact absurd rfl h
            · first | rfl | exact absurd rfl h⟩), fun w' hG hg ρ h1 h2 h3 h4 h5 => ?_⟩
      have hG := hid hG
      have hs : Value.bool s1 = .bool false := hg 4 false rfl
      injection hs with hs
      subst hs
      have f38 : ρ (.tmp 38) = (WF false (.int .i64 th)) := h4 6 38 (by kernel_rfl) (by kernel_rfl)
      all_goals
        try dsimp only [WF, WT] at *
        clear h4 h5 hg
        unfold OpY
        go_simp
        first | exact ⟨rfl, hG.out⟩ | exact ⟨Or.inr rfl, hG.out⟩ | exact ⟨Or.inl rfl, hG.out⟩
    · refine ⟨(fun g b h => by cases h), fun w' hG hg ρ h1 h2 h3 h4 h5 => ?_⟩
      have hG := hid hG
      have f36 : ρ (.tmp 36) = (.bool s1) := h4 4 36 (by kernel_rfl) (by kernel_rfl)
      have f39 : ρ (.tmp 39) = (WF s1 (.bool (decide (th < 0)))) := h4 7 39 (by kernel_rfl) (by kernel_rfl)
      obtain rfl := Hs2.out
      cases s1
      all_goals
        try dsimp only [WF, WT] at *
        clear h4 h5 hg
        unfold OpY
        go_simp
        first | exact ⟨rfl, hG.out⟩ | exact ⟨Or.inr rfl, hG.out⟩ | exact ⟨Or.inl rfl, hG.out⟩
    · refine ⟨(fun g b h => by cases h), fun w' hG hg ρ h1 h2 h3 h4 h5 => ?_⟩
      have hG := hid hG
      have f40 : ρ (.tmp 40) = (.bool s2) := h4 8 40 (by kernel_rfl) (by kernel_rfl)
      all_goals
        try dsimp only [WF, WT] at *
        clear h4 h5 hg
        unfold OpY
        go_simp
        first | exact ⟨rfl, hG.out⟩ | exact ⟨Or.inr rfl, hG.out⟩ | exact ⟨Or.inl rfl, hG.out⟩
    · refine ⟨(fun g b h => by
          obtain ⟨rfl, rfl⟩ := Prod.mk.inj (Option.some.inj h)
          exact ⟨s2, rfl, fun h => by
            cases s2
            · first | rfl | exact absurd rfl h
            · first | rfl | exact absurd rfl h⟩), fun w' hG hg ρ h1 h2 h3 h4 h5 => ?_⟩
      have hG := hid hG
      have hs : Value.bool s2 = .bool false := hg 9 false rfl
      injection hs with hs
      subst hs
      have f4 : ρ (.tmp 4) = .pointer (some ⟨w.heap.size, 0, none⟩) := h5 4 (by kernel_rfl)
      all_goals
        try dsimp only [WF, WT] at *
        clear h4 h5 hg
        unfold OpY
        go_simp
        first | exact ⟨rfl, hG.out⟩ | exact ⟨Or.inr rfl, hG.out⟩ | exact ⟨Or.inl rfl, hG.out⟩
    · refine ⟨(fun g b h => by
          obtain ⟨rfl, rfl⟩ := Prod.mk.inj (Option.some.inj h)
          exact ⟨s2, rfl, fun h => by
            cases s2
            · first | rfl | exact absurd rfl h
            · first | rfl | exact absurd rfl h⟩), fun w' hG hg ρ h1 h2 h3 h4 h5 => ?_⟩
      have hG := hid hG
      have hs : Value.bool s2 = .bool false := hg 9 false rfl
      injection hs with hs
      subst hs
      have f42 : ρ (.tmp 42) = (WF false (.pointer (some ⟨w.heap.size, 1, none⟩))) := h4 10 42 (by kernel_rfl) (by kernel_rfl)
      have c1 := (HE.out.below hG.out).cell 1 rfl
      all_goals
        try dsimp only [WF, WT] at *
        clear h4 h5 hg
        unfold OpY
        go_simp
        first | exact ⟨rfl, hG.out⟩ | exact ⟨Or.inr rfl, hG.out⟩ | exact ⟨Or.inl rfl, hG.out⟩
    · refine ⟨(fun g b h => by
          obtain ⟨rfl, rfl⟩ := Prod.mk.inj (Option.some.inj h)
          exact ⟨s2, rfl, fun h => by
            cases s2
            · first | rfl | exact absurd rfl h
            · first | rfl | exact absurd rfl h⟩), fun w' hG hg ρ h1 h2 h3 h4 h5 => ?_⟩
      have hG := hid hG
      have hs : Value.bool s2 = .bool false := hg 9 false rfl
      injection hs with hs
      subst hs
      have f1 : ρ (.tmp 1) = .int .i64 T := h5 1 (by kernel_rfl)
      all_goals
        try dsimp only [WF, WT] at *
        clear h4 h5 hg
        unfold OpY
        go_simp
        first | exact ⟨rfl, hG.out⟩ | exact ⟨Or.inr rfl, hG.out⟩ | exact ⟨Or.inl rfl, hG.out⟩
    · refine ⟨(fun g b h => by
          obtain ⟨rfl, rfl⟩ := Prod.mk.inj (Option.some.inj h)
          exact ⟨s2, rfl, fun h => by
            cases s2
            · first | rfl | exact absurd rfl h
            · first | rfl | exact absurd rfl h⟩), fun w' hG hg ρ h1 h2 h3 h4 h5 => ?_⟩
      have hG := hid hG
      have hs : Value.bool s2 = .bool false := hg 9 false rfl
      injection hs with hs
      subst hs
      have f43 : ρ (.tmp 43) = (WF false (.int .i64 th)) := h4 11 43 (by kernel_rfl) (by kernel_rfl)
      have f44 : ρ (.tmp 44) = (WF false (.int .i64 T)) := h4 12 44 (by kernel_rfl) (by kernel_rfl)
      all_goals
        try dsimp only [WF, WT] at *
        clear h4 h5 hg
        unfold OpY
        go_simp
        first | exact ⟨rfl, hG.out⟩ | exact ⟨Or.inr rfl, hG.out⟩ | exact ⟨Or.inl rfl, hG.out⟩
    · refine ⟨(fun g b h => by cases h), fun w' hG hg ρ h1 h2 h3 h4 h5 => ?_⟩
      have hG := hid hG
      have f41 : ρ (.tmp 41) = (.bool s2) := h4 9 41 (by kernel_rfl) (by kernel_rfl)
      have f45 : ρ (.tmp 45) = (WF s2 (.bool (decide (T ≤ th)))) := h4 13 45 (by kernel_rfl) (by kernel_rfl)
      obtain rfl := Hs3.out
      cases s2
      all_goals
        try dsimp only [WF, WT] at *
        clear h4 h5 hg
        unfold OpY
        go_simp
        first | exact ⟨rfl, hG.out⟩ | exact ⟨Or.inr rfl, hG.out⟩ | exact ⟨Or.inl rfl, hG.out⟩
    · refine ⟨(fun g b h => by cases h), fun w' hG hg ρ h1 h2 h3 h4 h5 => ?_⟩
      have hG := hid hG
      have f46 : ρ (.tmp 46) = (.bool s3) := h4 14 46 (by kernel_rfl) (by kernel_rfl)
      all_goals
        try dsimp only [WF, WT] at *
        clear h4 h5 hg
        unfold OpY
        go_simp
        first | exact ⟨rfl, hG.out⟩ | exact ⟨Or.inr rfl, hG.out⟩ | exact ⟨Or.inl rfl, hG.out⟩
    · refine ⟨(fun g b h => by
          obtain ⟨rfl, rfl⟩ := Prod.mk.inj (Option.some.inj h)
          exact ⟨s3, rfl, fun h => by
            cases s3
            · first | rfl | exact absurd rfl h
            · first | rfl | exact absurd rfl h⟩), fun w' hG hg ρ h1 h2 h3 h4 h5 => ?_⟩
      have hG := hid hG
      have hs : Value.bool s3 = .bool false := hg 15 false rfl
      injection hs with hs
      subst hs
      have f4 : ρ (.tmp 4) = .pointer (some ⟨w.heap.size, 0, none⟩) := h5 4 (by kernel_rfl)
      have c0 := (HE.out.below hG.out).cell 0 rfl
      have c1 := (HE.out.below hG.out).cell 1 rfl
      have c2 := (HE.out.below hG.out).cell 2 rfl
      have c3 := (HE.out.below hG.out).cell 3 rfl
      have c4 := (HE.out.below hG.out).cell 4 rfl
      have c5 := (HE.out.below hG.out).cell 5 rfl
      have c6 := (HE.out.below hG.out).cell 6 rfl
      all_goals
        try dsimp only [WF, WT] at *
        clear h4 h5 hg
        unfold OpY
        go_simp
        first | exact ⟨rfl, hG.out⟩ | exact ⟨Or.inr rfl, hG.out⟩ | exact ⟨Or.inl rfl, hG.out⟩
    · refine ⟨(fun g b h => by
          obtain ⟨rfl, rfl⟩ := Prod.mk.inj (Option.some.inj h)
          exact ⟨s3, rfl, fun h => by
            cases s3
            · first | rfl | exact absurd rfl h
            · first | rfl | exact absurd rfl h⟩), fun w' hG hg ρ h1 h2 h3 h4 h5 => ?_⟩
      have hG := hid hG
      have hs : Value.bool s3 = .bool false := hg 15 false rfl
      injection hs with hs
      subst hs
      have f48 : ρ (.tmp 48) = (WF false (.agg #[.int .u8 kind, .int .i64 th, .int .i64 tx, .int .i64 at_, .int .i64 v, .int .i64 x, .int .u8 why])) := h4 16 48 (by kernel_rfl) (by kernel_rfl)
      all_goals
        try dsimp only [WF, WT] at *
        clear h4 h5 hg
        unfold OpY
        go_simp
        unfold OpR
        refine (HBA.out w').mono ?_
        rintro e' w1 ⟨rfl, hb⟩
        first | exact ⟨_, rfl, rfl, ext_trans hG.out hb⟩ | exact ⟨_, rfl, Or.inr rfl, ext_trans hG.out hb⟩
    · refine ⟨(fun g b h => by
          obtain ⟨rfl, rfl⟩ := Prod.mk.inj (Option.some.inj h)
          exact ⟨s3, rfl, fun h => by
            cases s3
            · first | rfl | exact absurd rfl h
            · first | rfl | exact absurd rfl h⟩), fun w' hG hg ρ h1 h2 h3 h4 h5 => ?_⟩
      have hG := hid hG
      have hs : Value.bool s3 = .bool false := hg 15 false rfl
      injection hs with hs
      subst hs
      have f4 : ρ (.tmp 4) = .pointer (some ⟨w.heap.size, 0, none⟩) := h5 4 (by kernel_rfl)
      have c0 := (HE.out.below hG.out).cell 0 rfl
      have c1 := (HE.out.below hG.out).cell 1 rfl
      have c2 := (HE.out.below hG.out).cell 2 rfl
      have c3 := (HE.out.below hG.out).cell 3 rfl
      have c4 := (HE.out.below hG.out).cell 4 rfl
      have c5 := (HE.out.below hG.out).cell 5 rfl
      have c6 := (HE.out.below hG.out).cell 6 rfl
      all_goals
        try dsimp only [WF, WT] at *
        clear h4 h5 hg
        unfold OpY
        go_simp
        first | exact ⟨rfl, hG.out⟩ | exact ⟨Or.inr rfl, hG.out⟩ | exact ⟨Or.inl rfl, hG.out⟩
    · refine ⟨(fun g b h => by
          obtain ⟨rfl, rfl⟩ := Prod.mk.inj (Option.some.inj h)
          exact ⟨s3, rfl, fun h => by
            cases s3
            · first | rfl | exact absurd rfl h
            · first | rfl | exact absurd rfl h⟩), fun w' hG hg ρ h1 h2 h3 h4 h5 => ?_⟩
      have hG := hid hG
      have hs : Value.bool s3 = .bool false := hg 15 false rfl
      injection hs with hs
      subst hs
      have f49 : ρ (.tmp 49) = (WF false (.agg #[.int .u8 (bareE ⟨kind, th, tx, at_, v, x, why⟩).kind, .int .i64 (bareE ⟨kind, th, tx, at_, v, x, why⟩).th, .int .i64 (bareE ⟨kind, th, tx, at_, v, x, why⟩).tx, .int .i64 (bareE ⟨kind, th, tx, at_, v, x, why⟩).at_, .int .i64 (bareE ⟨kind, th, tx, at_, v, x, why⟩).v, .int .i64 (bareE ⟨kind, th, tx, at_, v, x, why⟩).x, .int .u8 (bareE ⟨kind, th, tx, at_, v, x, why⟩).why])) := h4 17 49 (by kernel_rfl) (by kernel_rfl)
      have f50 : ρ (.tmp 50) = (WF false (.agg #[.int .u8 kind, .int .i64 th, .int .i64 tx, .int .i64 at_, .int .i64 v, .int .i64 x, .int .u8 why])) := h4 18 50 (by kernel_rfl) (by kernel_rfl)
      have hcmp := HCMP.out
      all_goals
        try dsimp only [WF, WT] at *
        clear h4 h5 hg
        unfold OpY
        go_simp
        first | exact ⟨rfl, hG.out⟩ | exact ⟨Or.inr rfl, hG.out⟩ | exact ⟨Or.inl rfl, hG.out⟩
    · refine ⟨(fun g b h => by cases h), fun w' hG hg ρ h1 h2 h3 h4 h5 => ?_⟩
      have hG := hid hG
      have f47 : ρ (.tmp 47) = (.bool s3) := h4 15 47 (by kernel_rfl) (by kernel_rfl)
      have f51 : ρ (.tmp 51) = (WF s3 (.bool (!eb))) := h4 19 51 (by kernel_rfl) (by kernel_rfl)
      obtain rfl := Hs4.out
      cases s3
      all_goals
        try dsimp only [WF, WT] at *
        clear h4 h5 hg
        unfold OpY
        go_simp
        first | exact ⟨rfl, hG.out⟩ | exact ⟨Or.inr rfl, hG.out⟩ | exact ⟨Or.inl rfl, hG.out⟩
    · refine ⟨(fun g b h => by cases h), fun w' hG hg ρ h1 h2 h3 h4 h5 => ?_⟩
      have hG := hid hG
      have f52 : ρ (.tmp 52) = (.bool s4) := h4 20 52 (by kernel_rfl) (by kernel_rfl)
      all_goals
        try dsimp only [WF, WT] at *
        clear h4 h5 hg
        unfold OpY
        go_simp
        first | exact ⟨rfl, hG.out⟩ | exact ⟨Or.inr rfl, hG.out⟩ | exact ⟨Or.inl rfl, hG.out⟩
    · refine ⟨(fun g b h => by
          obtain ⟨rfl, rfl⟩ := Prod.mk.inj (Option.some.inj h)
          exact ⟨s4, rfl, fun h => by
            cases s4
            · first | rfl | exact absurd rfl h
            · first | rfl | exact absurd rfl h⟩), fun w' hG hg ρ h1 h2 h3 h4 h5 => ?_⟩
      have hG := hid hG
      have hs : Value.bool s4 = .bool false := hg 21 false rfl
      injection hs with hs
      subst hs
      have f4 : ρ (.tmp 4) = .pointer (some ⟨w.heap.size, 0, none⟩) := h5 4 (by kernel_rfl)
      all_goals
        try dsimp only [WF, WT] at *
        clear h4 h5 hg
        unfold OpY
        go_simp
        first | exact ⟨rfl, hG.out⟩ | exact ⟨Or.inr rfl, hG.out⟩ | exact ⟨Or.inl rfl, hG.out⟩
    · refine ⟨(fun g b h => by
          obtain ⟨rfl, rfl⟩ := Prod.mk.inj (Option.some.inj h)
          exact ⟨s4, rfl, fun h => by
            cases s4
            · first | rfl | exact absurd rfl h
            · first | rfl | exact absurd rfl h⟩), fun w' hG hg ρ h1 h2 h3 h4 h5 => ?_⟩
      have hG := hid hG
      have hs : Value.bool s4 = .bool false := hg 21 false rfl
      injection hs with hs
      subst hs
      have f54 : ρ (.tmp 54) = (WF false (.pointer (some ⟨w.heap.size, 2, none⟩))) := h4 22 54 (by kernel_rfl) (by kernel_rfl)
      have c2 := (HE.out.below hG.out).cell 2 rfl
      all_goals
        try dsimp only [WF, WT] at *
        clear h4 h5 hg
        unfold OpY
        go_simp
        first | exact ⟨rfl, hG.out⟩ | exact ⟨Or.inr rfl, hG.out⟩ | exact ⟨Or.inl rfl, hG.out⟩
    · refine ⟨(fun g b h => by
          obtain ⟨rfl, rfl⟩ := Prod.mk.inj (Option.some.inj h)
          exact ⟨s4, rfl, fun h => by
            cases s4
            · first | rfl | exact absurd rfl h
            · first | rfl | exact absurd rfl h⟩), fun w' hG hg ρ h1 h2 h3 h4 h5 => ?_⟩
      have hG := hid hG
      have hs : Value.bool s4 = .bool false := hg 21 false rfl
      injection hs with hs
      subst hs
      have f55 : ρ (.tmp 55) = (WF false (.int .i64 tx)) := h4 23 55 (by kernel_rfl) (by kernel_rfl)
      all_goals
        try dsimp only [WF, WT] at *
        clear h4 h5 hg
        unfold OpY
        go_simp
        first | exact ⟨rfl, hG.out⟩ | exact ⟨Or.inr rfl, hG.out⟩ | exact ⟨Or.inl rfl, hG.out⟩
    · refine ⟨(fun g b h => by cases h), fun w' hG hg ρ h1 h2 h3 h4 h5 => ?_⟩
      have hG := hid hG
      have f53 : ρ (.tmp 53) = (.bool s4) := h4 21 53 (by kernel_rfl) (by kernel_rfl)
      have f56 : ρ (.tmp 56) = (WF s4 (.bool (decide (tx < 0)))) := h4 24 56 (by kernel_rfl) (by kernel_rfl)
      obtain rfl := Hs5.out
      cases s4
      all_goals
        try dsimp only [WF, WT] at *
        clear h4 h5 hg
        unfold OpY
        go_simp
        first | exact ⟨rfl, hG.out⟩ | exact ⟨Or.inr rfl, hG.out⟩ | exact ⟨Or.inl rfl, hG.out⟩
    · refine ⟨(fun g b h => by cases h), fun w' hG hg ρ h1 h2 h3 h4 h5 => ?_⟩
      have hG := hid hG
      have f57 : ρ (.tmp 57) = (.bool s5) := h4 25 57 (by kernel_rfl) (by kernel_rfl)
      all_goals
        try dsimp only [WF, WT] at *
        clear h4 h5 hg
        unfold OpY
        go_simp
        first | exact ⟨rfl, hG.out⟩ | exact ⟨Or.inr rfl, hG.out⟩ | exact ⟨Or.inl rfl, hG.out⟩
    · refine ⟨(fun g b h => by
          obtain ⟨rfl, rfl⟩ := Prod.mk.inj (Option.some.inj h)
          exact ⟨s5, rfl, fun h => by
            cases s5
            · first | rfl | exact absurd rfl h
            · first | rfl | exact absurd rfl h⟩), fun w' hG hg ρ h1 h2 h3 h4 h5 => ?_⟩
      have hG := hid hG
      have hs : Value.bool s5 = .bool false := hg 26 false rfl
      injection hs with hs
      subst hs
      have f4 : ρ (.tmp 4) = .pointer (some ⟨w.heap.size, 0, none⟩) := h5 4 (by kernel_rfl)
      all_goals
        try dsimp only [WF, WT] at *
        clear h4 h5 hg
        unfold OpY
        go_simp
        first | exact ⟨rfl, hG.out⟩ | exact ⟨Or.inr rfl, hG.out⟩ | exact ⟨Or.inl rfl, hG.out⟩
    · refine ⟨(fun g b h => by
          obtain ⟨rfl, rfl⟩ := Prod.mk.inj (Option.some.inj h)
          exact ⟨s5, rfl, fun h => by
            cases s5
            · first | rfl | exact absurd rfl h
            · first | rfl | exact absurd rfl h⟩), fun w' hG hg ρ h1 h2 h3 h4 h5 => ?_⟩
      have hG := hid hG
      have hs : Value.bool s5 = .bool false := hg 26 false rfl
      injection hs with hs
      subst hs
      have f59 : ρ (.tmp 59) = (WF false (.pointer (some ⟨w.heap.size, 2, none⟩))) := h4 27 59 (by kernel_rfl) (by kernel_rfl)
      have c2 := (HE.out.below hG.out).cell 2 rfl
      all_goals
        try dsimp only [WF, WT] at *
        clear h4 h5 hg
        unfold OpY
        go_simp
        first | exact ⟨rfl, hG.out⟩ | exact ⟨Or.inr rfl, hG.out⟩ | exact ⟨Or.inl rfl, hG.out⟩
    · refine ⟨(fun g b h => by
          obtain ⟨rfl, rfl⟩ := Prod.mk.inj (Option.some.inj h)
          exact ⟨s5, rfl, fun h => by
            cases s5
            · first | rfl | exact absurd rfl h
            · first | rfl | exact absurd rfl h⟩), fun w' hG hg ρ h1 h2 h3 h4 h5 => ?_⟩
      have hG := hid hG
      have hs : Value.bool s5 = .bool false := hg 26 false rfl
      injection hs with hs
      subst hs
      have f60 : ρ (.tmp 60) = (WF false (.int .i64 tx)) := h4 28 60 (by kernel_rfl) (by kernel_rfl)
      all_goals
        try dsimp only [WF, WT] at *
        clear h4 h5 hg
        unfold OpY
        go_simp
        first | exact ⟨rfl, hG.out⟩ | exact ⟨Or.inr rfl, hG.out⟩ | exact ⟨Or.inl rfl, hG.out⟩
    · refine ⟨(fun g b h => by cases h), fun w' hG hg ρ h1 h2 h3 h4 h5 => ?_⟩
      have hG := hid hG
      have f58 : ρ (.tmp 58) = (.bool s5) := h4 26 58 (by kernel_rfl) (by kernel_rfl)
      have f61 : ρ (.tmp 61) = (WF s5 (.bool (decide (6 ≤ tx)))) := h4 29 61 (by kernel_rfl) (by kernel_rfl)
      obtain rfl := Hs6.out
      cases s5
      all_goals
        try dsimp only [WF, WT] at *
        clear h4 h5 hg
        unfold OpY
        go_simp
        first | exact ⟨rfl, hG.out⟩ | exact ⟨Or.inr rfl, hG.out⟩ | exact ⟨Or.inl rfl, hG.out⟩
    · refine ⟨(fun g b h => by cases h), fun w' hG hg ρ h1 h2 h3 h4 h5 => ?_⟩
      have hG := hid hG
      have f62 : ρ (.tmp 62) = (.bool s6) := h4 30 62 (by kernel_rfl) (by kernel_rfl)
      all_goals
        try dsimp only [WF, WT] at *
        clear h4 h5 hg
        unfold OpY
        go_simp
        first | exact ⟨rfl, hG.out⟩ | exact ⟨Or.inr rfl, hG.out⟩ | exact ⟨Or.inl rfl, hG.out⟩
    · refine ⟨(fun g b h => by
          obtain ⟨rfl, rfl⟩ := Prod.mk.inj (Option.some.inj h)
          exact ⟨s6, rfl, fun h => by
            cases s6
            · first | rfl | exact absurd rfl h
            · first | rfl | exact absurd rfl h⟩), fun w' hG hg ρ h1 h2 h3 h4 h5 => ?_⟩
      have hG := hid hG
      have hs : Value.bool s6 = .bool false := hg 31 false rfl
      injection hs with hs
      subst hs
      have f4 : ρ (.tmp 4) = .pointer (some ⟨w.heap.size, 0, none⟩) := h5 4 (by kernel_rfl)
      all_goals
        try dsimp only [WF, WT] at *
        clear h4 h5 hg
        unfold OpY
        go_simp
        first | exact ⟨rfl, hG.out⟩ | exact ⟨Or.inr rfl, hG.out⟩ | exact ⟨Or.inl rfl, hG.out⟩
    · refine ⟨(fun g b h => by
          obtain ⟨rfl, rfl⟩ := Prod.mk.inj (Option.some.inj h)
          exact ⟨s6, rfl, fun h => by
            cases s6
            · first | rfl | exact absurd rfl h
            · first | rfl | exact absurd rfl h⟩), fun w' hG hg ρ h1 h2 h3 h4 h5 => ?_⟩
      have hG := hid hG
      have hs : Value.bool s6 = .bool false := hg 31 false rfl
      injection hs with hs
      subst hs
      have f64 : ρ (.tmp 64) = (WF false (.pointer (some ⟨w.heap.size, 4, none⟩))) := h4 32 64 (by kernel_rfl) (by kernel_rfl)
      have c4 := (HE.out.below hG.out).cell 4 rfl
      all_goals
        try dsimp only [WF, WT] at *
        clear h4 h5 hg
        unfold OpY
        go_simp
        first | exact ⟨rfl, hG.out⟩ | exact ⟨Or.inr rfl, hG.out⟩ | exact ⟨Or.inl rfl, hG.out⟩
    · refine ⟨(fun g b h => by
          obtain ⟨rfl, rfl⟩ := Prod.mk.inj (Option.some.inj h)
          exact ⟨s6, rfl, fun h => by
            cases s6
            · first | rfl | exact absurd rfl h
            · first | rfl | exact absurd rfl h⟩), fun w' hG hg ρ h1 h2 h3 h4 h5 => ?_⟩
      have hG := hid hG
      have hs : Value.bool s6 = .bool false := hg 31 false rfl
      injection hs with hs
      subst hs
      have f65 : ρ (.tmp 65) = (WF false (.int .i64 v)) := h4 33 65 (by kernel_rfl) (by kernel_rfl)
      all_goals
        try dsimp only [WF, WT] at *
        clear h4 h5 hg
        unfold OpY
        go_simp
        first | exact ⟨rfl, hG.out⟩ | exact ⟨Or.inr rfl, hG.out⟩ | exact ⟨Or.inl rfl, hG.out⟩
    · refine ⟨(fun g b h => by cases h), fun w' hG hg ρ h1 h2 h3 h4 h5 => ?_⟩
      have hG := hid hG
      have f63 : ρ (.tmp 63) = (.bool s6) := h4 31 63 (by kernel_rfl) (by kernel_rfl)
      have f66 : ρ (.tmp 66) = (WF s6 (.bool (decide (v < 0)))) := h4 34 66 (by kernel_rfl) (by kernel_rfl)
      obtain rfl := Hs7.out
      cases s6
      all_goals
        try dsimp only [WF, WT] at *
        clear h4 h5 hg
        unfold OpY
        go_simp
        first | exact ⟨rfl, hG.out⟩ | exact ⟨Or.inr rfl, hG.out⟩ | exact ⟨Or.inl rfl, hG.out⟩
    · refine ⟨(fun g b h => by cases h), fun w' hG hg ρ h1 h2 h3 h4 h5 => ?_⟩
      have hG := hid hG
      have f67 : ρ (.tmp 67) = (.bool s7) := h4 35 67 (by kernel_rfl) (by kernel_rfl)
      all_goals
        try dsimp only [WF, WT] at *
        clear h4 h5 hg
        unfold OpY
        go_simp
        first | exact ⟨rfl, hG.out⟩ | exact ⟨Or.inr rfl, hG.out⟩ | exact ⟨Or.inl rfl, hG.out⟩
    · refine ⟨(fun g b h => by
          obtain ⟨rfl, rfl⟩ := Prod.mk.inj (Option.some.inj h)
          exact ⟨s7, rfl, fun h => by
            cases s7
            · first | rfl | exact absurd rfl h
            · first | rfl | exact absurd rfl h⟩), fun w' hG hg ρ h1 h2 h3 h4 h5 => ?_⟩
      have hG := hid hG
      have hs : Value.bool s7 = .bool false := hg 36 false rfl
      injection hs with hs
      subst hs
      have f4 : ρ (.tmp 4) = .pointer (some ⟨w.heap.size, 0, none⟩) := h5 4 (by kernel_rfl)
      all_goals
        try dsimp only [WF, WT] at *
        clear h4 h5 hg
        unfold OpY
        go_simp
        first | exact ⟨rfl, hG.out⟩ | exact ⟨Or.inr rfl, hG.out⟩ | exact ⟨Or.inl rfl, hG.out⟩
    · refine ⟨(fun g b h => by
          obtain ⟨rfl, rfl⟩ := Prod.mk.inj (Option.some.inj h)
          exact ⟨s7, rfl, fun h => by
            cases s7
            · first | rfl | exact absurd rfl h
            · first | rfl | exact absurd rfl h⟩), fun w' hG hg ρ h1 h2 h3 h4 h5 => ?_⟩
      have hG := hid hG
      have hs : Value.bool s7 = .bool false := hg 36 false rfl
      injection hs with hs
      subst hs
      have f69 : ρ (.tmp 69) = (WF false (.pointer (some ⟨w.heap.size, 4, none⟩))) := h4 37 69 (by kernel_rfl) (by kernel_rfl)
      have c4 := (HE.out.below hG.out).cell 4 rfl
      all_goals
        try dsimp only [WF, WT] at *
        clear h4 h5 hg
        unfold OpY
        go_simp
        first | exact ⟨rfl, hG.out⟩ | exact ⟨Or.inr rfl, hG.out⟩ | exact ⟨Or.inl rfl, hG.out⟩
    · refine ⟨(fun g b h => by
          obtain ⟨rfl, rfl⟩ := Prod.mk.inj (Option.some.inj h)
          exact ⟨s7, rfl, fun h => by
            cases s7
            · first | rfl | exact absurd rfl h
            · first | rfl | exact absurd rfl h⟩), fun w' hG hg ρ h1 h2 h3 h4 h5 => ?_⟩
      have hG := hid hG
      have hs : Value.bool s7 = .bool false := hg 36 false rfl
      injection hs with hs
      subst hs
      have f70 : ρ (.tmp 70) = (WF false (.int .i64 v)) := h4 38 70 (by kernel_rfl) (by kernel_rfl)
      all_goals
        try dsimp only [WF, WT] at *
        clear h4 h5 hg
        unfold OpY
        go_simp
        first | exact ⟨rfl, hG.out⟩ | exact ⟨Or.inr rfl, hG.out⟩ | exact ⟨Or.inl rfl, hG.out⟩
    · refine ⟨(fun g b h => by cases h), fun w' hG hg ρ h1 h2 h3 h4 h5 => ?_⟩
      have hG := hid hG
      have f68 : ρ (.tmp 68) = (.bool s7) := h4 36 68 (by kernel_rfl) (by kernel_rfl)
      have f71 : ρ (.tmp 71) = (WF s7 (.bool (decide (1099511627776 < v)))) := h4 39 71 (by kernel_rfl) (by kernel_rfl)
      obtain rfl := Hs8.out
      cases s7
      all_goals
        try dsimp only [WF, WT] at *
        clear h4 h5 hg
        unfold OpY
        go_simp
        first | exact ⟨rfl, hG.out⟩ | exact ⟨Or.inr rfl, hG.out⟩ | exact ⟨Or.inl rfl, hG.out⟩
    · refine ⟨(fun g b h => by cases h), fun w' hG hg ρ h1 h2 h3 h4 h5 => ?_⟩
      have hG := hid hG
      have f72 : ρ (.tmp 72) = (.bool s8) := h4 40 72 (by kernel_rfl) (by kernel_rfl)
      all_goals
        try dsimp only [WF, WT] at *
        clear h4 h5 hg
        unfold OpY
        go_simp
        first | exact ⟨rfl, hG.out⟩ | exact ⟨Or.inr rfl, hG.out⟩ | exact ⟨Or.inl rfl, hG.out⟩
    · refine ⟨(fun g b h => by
          obtain ⟨rfl, rfl⟩ := Prod.mk.inj (Option.some.inj h)
          exact ⟨s8, rfl, fun h => by
            cases s8
            · first | rfl | exact absurd rfl h
            · first | rfl | exact absurd rfl h⟩), fun w' hG hg ρ h1 h2 h3 h4 h5 => ?_⟩
      have hG := hid hG
      have hs : Value.bool s8 = .bool false := hg 41 false rfl
      injection hs with hs
      subst hs
      have f4 : ρ (.tmp 4) = .pointer (some ⟨w.heap.size, 0, none⟩) := h5 4 (by kernel_rfl)
      all_goals
        try dsimp only [WF, WT] at *
        clear h4 h5 hg
        unfold OpY
        go_simp
        first | exact ⟨rfl, hG.out⟩ | exact ⟨Or.inr rfl, hG.out⟩ | exact ⟨Or.inl rfl, hG.out⟩
    · refine ⟨(fun g b h => by
          obtain ⟨rfl, rfl⟩ := Prod.mk.inj (Option.some.inj h)
          exact ⟨s8, rfl, fun h => by
            cases s8
            · first | rfl | exact absurd rfl h
            · first | rfl | exact absurd rfl h⟩), fun w' hG hg ρ h1 h2 h3 h4 h5 => ?_⟩
      have hG := hid hG
      have hs : Value.bool s8 = .bool false := hg 41 false rfl
      injection hs with hs
      subst hs
      have f74 : ρ (.tmp 74) = (WF false (.pointer (some ⟨w.heap.size, 3, none⟩))) := h4 42 74 (by kernel_rfl) (by kernel_rfl)
      have c3 := (HE.out.below hG.out).cell 3 rfl
      all_goals
        try dsimp only [WF, WT] at *
        clear h4 h5 hg
        unfold OpY
        go_simp
        first | exact ⟨rfl, hG.out⟩ | exact ⟨Or.inr rfl, hG.out⟩ | exact ⟨Or.inl rfl, hG.out⟩
    · refine ⟨(fun g b h => by
          obtain ⟨rfl, rfl⟩ := Prod.mk.inj (Option.some.inj h)
          exact ⟨s8, rfl, fun h => by
            cases s8
            · first | rfl | exact absurd rfl h
            · first | rfl | exact absurd rfl h⟩), fun w' hG hg ρ h1 h2 h3 h4 h5 => ?_⟩
      have hG := hid hG
      have hs : Value.bool s8 = .bool false := hg 41 false rfl
      injection hs with hs
      subst hs
      have f75 : ρ (.tmp 75) = (WF false (.int .i64 at_)) := h4 43 75 (by kernel_rfl) (by kernel_rfl)
      all_goals
        try dsimp only [WF, WT] at *
        clear h4 h5 hg
        unfold OpY
        go_simp
        first | exact ⟨rfl, hG.out⟩ | exact ⟨Or.inr rfl, hG.out⟩ | exact ⟨Or.inl rfl, hG.out⟩
    · refine ⟨(fun g b h => by cases h), fun w' hG hg ρ h1 h2 h3 h4 h5 => ?_⟩
      have hG := hid hG
      have f73 : ρ (.tmp 73) = (.bool s8) := h4 41 73 (by kernel_rfl) (by kernel_rfl)
      have f76 : ρ (.tmp 76) = (WF s8 (.bool (decide (at_ < 0)))) := h4 44 76 (by kernel_rfl) (by kernel_rfl)
      obtain rfl := Hs9.out
      cases s8
      all_goals
        try dsimp only [WF, WT] at *
        clear h4 h5 hg
        unfold OpY
        go_simp
        first | exact ⟨rfl, hG.out⟩ | exact ⟨Or.inr rfl, hG.out⟩ | exact ⟨Or.inl rfl, hG.out⟩
  case hdone =>
    intro w' hG
    have HBZ := hid (ext_trans HB.out hG)
    have HEZ := hid (HE.out.below hG)
    clear hG HE HB HNA HBA HCMP HNM HEB HS1 Hs2 Hs3 Hs4 Hs5 Hs6 Hs7 Hs8 Hs9
    cases s9
    case true =>
      go_wp2_with fail
      go_ret
      exact ⟨by rw [← HRES.out]; rfl, HBZ.out⟩
    case false =>
    have c0 := HEZ.out.cell 0 rfl
    have c3 := HEZ.out.cell 3 rfl
    have c4 := HEZ.out.cell 4 rfl
    have c6 := HEZ.out.cell 6 rfl
    have hr := HRES.out
    rw [Bool.not_false, Bool.true_and] at hr
    clear HEZ HRES
    unfold rlast at hr
    dsimp only at hr
    by_cases k3 : kind = 3 ∨ kind = 8
    · rw [if_pos k3] at hr
      rcases k3 with rfl | rfl
      · go_wp2_with fail
        go_ret
        exact ⟨by first | rfl | (rw [← hr]; first | rfl | simp), HBZ.out⟩
      · go_wp2_with fail
        go_ret
        exact ⟨by first | rfl | (rw [← hr]; first | rfl | simp), HBZ.out⟩
    rw [if_neg k3] at hr
    by_cases k5 : kind = 5
    · rw [if_pos k5] at hr
      subst k5
      clear k3
      go_wp2_with fail
      go_ret
      exact ⟨by first | rfl | (rw [← hr]; first | rfl | simp), HBZ.out⟩
    rw [if_neg k5] at hr
    have e3 : (kind == 3) = false := beq_eq_false_iff_ne.2 (by omega)
    have e8 : (kind == 8) = false := beq_eq_false_iff_ne.2 (by omega)
    have e5 : (kind == 5) = false := beq_eq_false_iff_ne.2 k5
    clear k3 k5
    by_cases k10 : kind = 10
    · rw [if_pos k10] at hr
      subst k10
      clear e3 e8 e5
      by_cases b1 : 1 ≤ why
      · have b1 := decide_eq_true b1
        by_cases b2 : why ≤ 6
        · have b2 := decide_eq_true b2
          by_cases b3 : at_ < S
          · have b3 := decide_eq_true b3
            by_cases b4 : why = 6
            · subst b4
              rw [b1, b2, b3] at hr
              go_wp2_with fail
              go_ret
              exact ⟨by first | rfl | (rw [← hr]; first | rfl | simp), HBZ.out⟩
            · have b4 : (why == 6) = false := beq_eq_false_iff_ne.2 b4
              rw [b1, b2, b3, b4] at hr
              go_wp2_with fail
              go_ret
              exact ⟨by first | rfl | (rw [← hr]; first | rfl | simp), HBZ.out⟩
          · have b3 := decide_eq_false b3
            rw [b1, b2, b3] at hr
            go_wp2_with fail
            go_ret
            exact ⟨by first | rfl | (rw [← hr]; first | rfl | simp), HBZ.out⟩
        · have b2 := decide_eq_false b2
          rw [b1, b2] at hr
          go_wp2_with fail
          go_ret
          exact ⟨by first | rfl | (rw [← hr]; first | rfl | simp), HBZ.out⟩
      · have b1 := decide_eq_false b1
        rw [b1] at hr
        go_wp2_with fail
        go_ret
        exact ⟨by first | rfl | (rw [← hr]; first | rfl | simp), HBZ.out⟩
    · rw [if_neg k10] at hr
      have e10 : (kind == 10) = false := beq_eq_false_iff_ne.2 k10
      clear k10
      go_wp2_with fail
      go_ret
      exact ⟨by first | rfl | (rw [← hr]; first | rfl | simp), HBZ.out⟩
end Go.Proofs.YtokkafiphchejaaDoor
