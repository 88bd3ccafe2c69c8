/-
  Walk: SliceBoth.
-/
import Derived.Test.YtcdgfnocjnampaaSlL2
import Derived.Laws.AppendOwnNone
namespace Go.Proofs.Ytcdgfnocjnampaa
set_option linter.unusedVariables false
set_option linter.unusedSimpArgs false
set_option linter.unusedVariables false
open Go Go.RowKit
/-- An append of numbers that came in, to a row of the call's own. -/
theorem wpList_append_i {P : Program} {w : World} {ops : Array Oper} {rest : List Oper} {o : Oper} {a : Act} {Q : Exit → Act → World → Prop} (hgd : o.guard = none) (s x : Operand) (t : TypeId)
    (ho : o.op = .call { callee := .builtin .append, args := #[s, x], argTypes := #[t, t] }) (base : Nat) (e : TypeId) (i : TypeInfo) (ht : P.underlying t = some (.slice e)) (hi : P.info? e = some i) (hz : i.zero = some (.int .i64 0)) (hsize : i.size = 1) (hby : i.bytes = 8)
    (v sv : Value) (n : Nat) (xs : List Value) (l : List Int) (hs : a.eval s = v) (hx : a.eval x = sv) (hown : w.ownsRow base e 1 v n xs) (hr : RdI w l sv) (h63 : n + l.length ≤ 1000000) (hbase : base ≤ w.heap.size)
    (h : ∀ v' w', w'.ownsRow base e 1 v' (n + l.length) (xs ++ l.map (.int .i64)) → w.grownBy w' v.ownBlock → wpList P ops Q rest (a.put o.dst v') w') : wpList P ops Q (o :: rest) a w := by
  obtain ⟨ad, cap, rfl, hl, hb, hc, hn⟩ := hr
  rcases ad with _ | ad
  · obtain rfl : cap = 0 := hn rfl
    have hl0 : l = [] := by
      rcases l with _ | ⟨y, l⟩
      · rfl
      · obtain ⟨b, o', h0, -⟩ := hc (by simp)
        cases h0
    subst hl0
    refine wpList_append_own_none hgd s x t ho base e i 1 ht hi v n xs hs hown hx ?_
    exact h v w (by simpa using hown) ⟨rfl, rfl, rfl, Nat.le_refl _, fun _ _ _ => rfl⟩
  · refine wpList_append_own w hgd s x t ho base e i (.int .i64 0) 1 8 ht hi hz hsize hby rfl (by decide) v n xs hs hown ad l.length cap (l.map (.int .i64)) hx (by simp) (fun j u hj => ?_) (fun u hu => by obtain ⟨y, _, rfl⟩ := List.mem_map.1 hu; rfl) (by unfold maxLen; omega) (by omega) hbase (fun v' w' h1 h2 _ => h v' w' h1 h2)
    rw [List.getElem?_map] at hj
    obtain ⟨y, hy, rfl⟩ := Option.map_eq_some_iff.1 hj
    obtain ⟨hj', rfl⟩ := List.getElem?_eq_some_iff.1 hy
    obtain ⟨b, o', h0, h1⟩ := hc (by intro h; subst h; simp at hj')
    cases h0
    rw [Addr.add_lit]
    exact h1 j hj'
theorem rdI_of_own {W : World} {n₀ e : Nat} {v : Value} {l : List Int} (hb : ∀ y ∈ l, B64 y) (hl : l.length ≤ 1000000) (h : W.ownsRow n₀ e 1 v l.length (l.map (.int .i64))) : RdI W l v := by
  have h0 := h
  rcases h.2 with ⟨rfl, hn⟩ | ⟨g, cap, cur, rfl, _, hg, h1, h2, h3, h4⟩
  · exact ⟨none, 0, by rw [hn], by omega, hb, fun hne => absurd (List.eq_nil_of_length_eq_zero hn) hne, fun _ => rfl⟩
  · refine ⟨_, cap, rfl, by omega, hb, fun _ => ⟨g, 0, rfl, fun k hk => ?_⟩, (fun h => by cases h)⟩
    rw [Nat.zero_add, h0.cellAt k (by omega), List.getElem?_map, List.getElem?_eq_getElem hk]; rfl
theorem big_of {L : List Att} {vars : List Int} (h1 : L.length ≤ 60) (h2 : sumK L L.length < 1500) (h3 : vars.length ≤ 100) : (roots L vars).length + L.length * askN L ≤ 1000000000000 := by
  have e1 := roots_len L vars
  have e2 : askN L ≤ 1500 + L.length := askN_le fun a ha => by
    obtain ⟨k, hk, rfl⟩ := List.mem_iff_getElem.1 ha
    have := sumK_ge L L.length k hk
    rw [List.getD_eq_getElem?_getD, List.getElem?_eq_getElem hk] at this
    simp only [Option.getD_some] at this
    omega
  have : L.length * askN L ≤ 60 * 1560 := Nat.mul_le_mul h1 (by omega)
  omega
theorem kept_len {L : List Att} {vars : List Int} : (keptL L vars).length ≤ L.length := sorted_len (keptL_is L vars).1 (keptL_is L vars).lt
set_option maxRecDepth 100000 in
set_option maxHeartbeats 4000000 in
theorem sliceBoth_walk (L : List Att) (a b : List Int) (w : World) (vl va vb : Value) (hL : RdAtts w L vl) (hA : RdI w a va) (hB : RdI w b vb) (hb : ∀ x ∈ L, x.reads.length ≤ 8796093022208 ∧ x.writes.length ≤ 8796093022208) :
    Calls Try.prog 4 #[vl, va, vb] w fun e w' => e = .returned (.bool true) ∧ Below w.heap.size w w' := by
  have HW := hid works_any
  have HLG := hid (fun w v h => large_any L w v h hb)
  have HL := hid hL
  have HA := hid hA
  have HB := hid hB
  obtain ⟨al, cl, hvl⟩ : ∃ al cl, vl = .slice al L.length cl := by obtain ⟨al, cl, h, _⟩ := hL; exact ⟨al, cl, h⟩
  obtain ⟨aa, ca, hva, hal, hab, -⟩ := id hA
  obtain ⟨ab, cb, hvb, hbl, hbb, -⟩ := id hB
  obtain ⟨i0, hi0, hz0, hz1, hz2⟩ := info_parts infoI
  have HAB := hid (And.intro hab hbb)
  clear hL hA hB hab hbb hb
  subst hvl hva hvb
  go_enter Try.func4, Try.ntmps4
  go_wp2_with fail
  refine (HW.out _).mono ?_
  rintro e' w1 ⟨rfl, hb1⟩
  go_wp2_with fail
  refine (HLG.out _ _ (HL.out.below hb1)).mono ?_
  rintro e' w2 ⟨q, rfl, hq, hb2⟩
  have hB2 := ext_trans hb1 hb2
  have HQ := hid hq
  clear hq
  cases q
  case' true =>
    go_wp2_with fail
    refine (HW.out _).mono ?_
    rintro e' w3 ⟨rfl, hb3⟩
    go_wp2_with fail
    go_ret
    exact ⟨rfl, ext_trans hB2 hb3⟩
  by_cases h1 : a.length ≤ 50
  case' neg =>
    have g1 : (50 : Int) < (a.length : Int) := by omega
    clear h1
    go_wp2_with fail
    refine (HW.out _).mono ?_
    rintro e' w3 ⟨rfl, hb3⟩
    go_wp2_with fail
    go_ret
    exact ⟨rfl, ext_trans hB2 hb3⟩
  have g1 : decide ((50 : Int) < (a.length : Int)) = false := by rw [decide_eq_false_iff_not]; omega
  by_cases h2 : b.length ≤ 50
  case' neg =>
    have g2 : (50 : Int) < (b.length : Int) := by omega
    clear h1 h2
    go_wp2_with fail
    refine (HW.out _).mono ?_
    rintro e' w3 ⟨rfl, hb3⟩
    go_wp2_with fail
    go_ret
    exact ⟨rfl, ext_trans hB2 hb3⟩
  have g2 : decide ((50 : Int) < (b.length : Int)) = false := by rw [decide_eq_false_iff_not]; omega
  obtain ⟨hl60, hs⟩ := HQ.out rfl
  have H1 := hid h1
  have H2 := hid h2
  have HKA := hid (fun w vl vv h1' h2' => kept_any L a w vl vv h1' h2' (big_of hl60 hs (by omega)) (by omega))
  have HKB := hid (fun w vl vv h1' h2' => kept_any L b w vl vv h1' h2' (big_of hl60 hs (by omega)) (by omega))
  have HKZ := hid (fun w vl vv h1' h2' => kept_any L (a ++ b) w vl vv h1' h2' (big_of hl60 hs (by rw [List.length_append]; omega)) (by omega))
  have HKL := hid (fun vars : List Int => Nat.le_trans (kept_len (L := L) (vars := vars)) hl60)
  have H60 := hid hl60
  clear h1 h2 hl60 hs
  go_wp2_with fail
  refine (HKA.out _ _ _ (HL.out.below hB2) (HA.out.below hB2)).mono ?_
  rintro e' w3 ⟨v3, rfl, ho3, hb3⟩
  have hB3 := ext_trans hB2 hb3
  go_wp2_with fail
  refine (HKB.out _ _ _ (HL.out.below hB3) (HB.out.below hB3)).mono ?_
  rintro e' w4 ⟨v4, rfl, ho4, hb4⟩
  have hB4 := ext_trans hB3 hb4
  have hr3 := rdNats_of_own ho3
  have hr4 := rdNats_of_own ho4
  have HR3 := hid (hr3.below hb4)
  have HR4 := hid hr4
  clear ho3 ho4 hr3 hr4
  have ho0 : (w4.alloc (.cells #[] 3)).ownsRow w4.heap.size 3 1 (.slice (some ⟨w4.heap.size, 0, none⟩) 0 0) 0 [] := World.ownsRow_lit w4 #[] 0 (Nat.le_refl _) (by decide) (by decide)
  have HO0 := hid ho0
  clear ho0
  have hC5 := ext_alloc (ext_refl w4) (.cells #[] 3)
  have HA5 := hid (HA.out.below (ext_trans hB4 hC5))
  go_wp2_with (first
    | (at_builtin; refine wpList_append_i rfl _ _ 23 rfl w4.heap.size 3 i0 Try.underlying23 hi0 hz0 hz1 hz2 (.slice (some ⟨w4.heap.size, 0, none⟩) 0 0) _ 0 [] a rfl rfl HO0.out HA5.out (by have := H1.out; omega) hC5.size ?_; intro v6 w6 ho6 hg6; have hC6 : Below w4.heap.size w4 w6 := (hC5.grown hg6 hC5.size (fun k e => by cases e; exact Nat.le_refl _)); have HB6 := hid (HB.out.below (ext_trans hB4 hC6)); have hz6 := hC6.size)
    | (at_builtin; refine wpList_append_i rfl _ _ 23 rfl w4.heap.size 3 i0 Try.underlying23 hi0 hz0 hz1 hz2 v6 _ _ _ b rfl rfl ho6 HB6.out (by have := H1.out; have := H2.out; omega) hz6 ?_; intro v7 w7 ho7 hg7; have hC7 : Below w4.heap.size w4 w7 := (hC6.grown hg7 hz6 (fun k e => (ho6.lt k e).1))))
  have hB7 := ext_trans hB4 hC7
  have hri : RdI w7 (a ++ b) v7 := by
    refine rdI_of_own (l := a ++ b) (fun y hy => ?_) (by rw [List.length_append]; have := H1.out; have := H2.out; omega) ?_ (n₀ := w4.heap.size) (e := 3)
    · rcases List.mem_append.1 hy with h | h
      · exact HAB.out.1 y h
      · exact HAB.out.2 y h
    · have := ho7
      rw [List.length_append, List.map_append]
      simpa using this
  refine (HKZ.out _ _ _ (HL.out.below hB7) hri).mono ?_
  rintro e' w8 ⟨v8, rfl, ho8, hb8⟩
  have hB8 := ext_trans hB7 hb8
  have HR8 := hid (rdNats_of_own ho8)
  have HR38 := hid (HR3.out.below (ext_trans hC7 hb8))
  have HR48 := hid (HR4.out.below (ext_trans hC7 hb8))
  have HBO := hid (fun i => kept_both (keptL_is L a) (keptL_is L b) (keptL_is L (a ++ b)) i)
  clear ho6 hg6 ho7 hg7 ho8 hri
  go_wp2_with fail
  go_loopw [10] (fun i wr => ∃ k : Nat, k ≤ L.length ∧ i = .int .i64 k ∧ Hid (Below w8.heap.size w8 wr)) (fun i _ => L.length - (intOf i).toNat)
  case atStart => exact ⟨0, Nat.zero_le _, rfl, hid (ext_refl _)⟩
  case round =>
    obtain ⟨k, hk, rfl, HBW⟩ := hrel
    by_cases hlt : k < L.length
    · have j1 : decide ((k : Int) < (L.length : Int)) = true := by rw [decide_eq_true_iff]; omega
      have j3 : IntKind.i64.wrap ((k : Int) + 1) = ((k + 1 : Nat) : Int) := by have := H60.out; rw [IntWalk.i64_in _ (by omega)]; omega
      have HLT := hid hlt
      have HZ := hid (fun w h => in_any (keptL L (a ++ b)) k w v8 h (by have := HKL.out (a ++ b); omega))
      have HX := hid (fun w h => in_any (keptL L a) k w v3 h (by have := HKL.out a; omega))
      have HY := hid (fun w h => in_any (keptL L b) k w v4 h (by have := HKL.out b; omega))
      have HBK := hid (HBO.out k)
      obtain ⟨z, hz⟩ : ∃ z, z = decide (k ∈ keptL L (a ++ b)) := ⟨_, rfl⟩
      obtain ⟨x, hx⟩ : ∃ x, x = decide (k ∈ keptL L a) := ⟨_, rfl⟩
      obtain ⟨y, hy⟩ : ∃ y, y = decide (k ∈ keptL L b) := ⟨_, rfl⟩
      have HE : Hid (z = (x || y)) := hid (by
        rw [hz, hx, hy]
        by_cases h1 : k ∈ keptL L a
        · simp [h1, HBK.out.2 (.inl h1)]
        · by_cases h2 : k ∈ keptL L b
          · simp [h2, HBK.out.2 (.inr h2)]
          · have : k ∉ keptL L (a ++ b) := fun h => by rcases HBK.out.1 h with h | h; exact h1 h; exact h2 h
            simp [h1, h2, this])
      rw [← hz] at HZ
      rw [← hx] at HX
      rw [← hy] at HY
      clear hz hx hy HBK hlt
      go_wp2_with fail
      refine (HZ.out _ (HR8.out.below HBW.out)).mono ?_
      rintro e' u1 ⟨rfl, hu1⟩
      have hU1 := ext_trans HBW.out hu1
      go_wp2_with fail
      refine (HX.out _ (HR38.out.below hU1)).mono ?_
      rintro e' u2 ⟨rfl, hu2⟩
      have hU2 := ext_trans hU1 hu2
      cases x
      case' true =>
        have hz : z = true := by rw [HE.out]; rfl
        subst hz
        go_wp2_with fail
        go_roundw
        case rel => exact ⟨k + 1, HLT.out, by simp, hid hU2⟩
        case measure => have := HLT.out; simp [intOf]; omega
      case false =>
        have hz : z = y := by rw [HE.out]; rfl
        subst hz
        go_wp2_with fail
        refine (HY.out _ (HR48.out.below hU2)).mono ?_
        rintro e' u3 ⟨rfl, hu3⟩
        have hU3 := ext_trans hU2 hu3
        cases z
        all_goals
          go_wp2_with fail
          go_roundw
          case rel => exact ⟨k + 1, HLT.out, by simp, hid hU3⟩
          case measure => have := HLT.out; simp [intOf]; omega
    · obtain rfl : k = L.length := by omega
      have j1 : decide ((L.length : Int) < (L.length : Int)) = false := by rw [decide_eq_false_iff_not]; omega
      go_wp2_with fail
      go_ret
      exact ⟨rfl, ext_trans hB8 HBW.out⟩
end Go.Proofs.Ytcdgfnocjnampaa
