/-
  Walk: pack.Encode, of a setup that may be.
-/
import Derived.Test.YtaklfjjkeebheaaPkJ
import Derived.Test.YtaklfjjkeebheaaPkF
import Derived.Test.YtaklfjjkeebheaaSuC2
namespace Go.Proofs.Ytaklfjjkeebheaa
set_option linter.unusedVariables false
set_option linter.unusedSimpArgs false
set_option linter.unusedVariables false
open Go Go.RowKit
section
variable {α : Type} {f : α → List Nat}
theorem flatG_take : ∀ (l : List α) (k : Nat) (h : k < l.length), (l.take (k + 1)).flatMap f = (l.take k).flatMap f ++ f l[k]
  | x :: xs, 0, h => by simp
  | x :: xs, k + 1, h => by
    simp only [List.take_succ_cons, List.flatMap_cons, List.getElem_cons_succ]
    rw [flatG_take xs k (by simpa using h), List.append_assoc]
theorem flatG_take_le : ∀ (l : List α) (j : Nat), ((l.take j).flatMap f).length ≤ (l.flatMap f).length
  | [], j => by simp
  | x :: xs, 0 => by simp
  | x :: xs, j + 1 => by
    simp only [List.take_succ_cons, List.flatMap_cons, List.length_append]
    have := flatG_take_le xs j
    omega
theorem flatG_le (l : List α) (k : Nat) (h : k < l.length) : ((l.take k).flatMap f).length + (f l[k]).length ≤ (l.flatMap f).length := by
  have := flatG_take_le (f := f) l (k + 1)
  rw [flatG_take l k h, List.length_append] at this
  omega
end
/-- What Encode asks of a setup: it may be, and its statements' Kinds are Kinds. -/
structure EncOk (x : Su) : Prop where
  good : GoodS x.st x.ck x.tr x.init.length x.ths
  ok : ∀ th ∈ x.ths, okTh th
  kd : ∀ th ∈ x.ths, ∀ t ∈ th, ∀ y ∈ flatT t, 1 ≤ y.kind ∧ y.kind ≤ 8
  fit : (setupB x).length ≤ 15000000
def EncP (x : Su) (W : World) (e : Ending) (W' : World) : Prop := e = .returned (.tuple #[.string (bstr (wrapL (setupB x)).1), .int .i64 (wrapL (setupB x)).2]) ∧ Below W.heap.size W W'
theorem RdI.below {w w' : World} {x : Int} {v : Value} (hb : Below w.heap.size w w') (h : RdI w x v) : RdI w' x v := h
/-- The worlds of Encode. -/
structure EnW (x : Su) (W W2 : World) (b xb : Nat) (vi vt : Value) (bs : List Nat) (u : Value) (wr : World) : Prop where
  g : WrtO wr b 16777216 bs (b + 1) u
  sb : Blk wr W.heap.size #[.int .i64 x.st, .int .i64 x.ck, .int .i64 x.tr, vi, vt] 27
  bx : Blk wr xb #[.pointer (some ⟨b, 0, none⟩)] 52
  own : ∀ g, u.ownBlock = some g → xb < g
  low : Below b W2 wr
  pos : W.heap.size < b ∧ b < xb ∧ xb < wr.heap.size ∧ W2.heap.size = b
section
variable {x : Su} {W W2 : World} {b xb : Nat} {vi vt : Value} {bs : List Nat} {u : Value} {wr : World}
theorem EnW.below {w' : World} (h : EnW x W W2 b xb vi vt bs u wr) (hb : Below wr.heap.size wr w') : EnW x W W2 b xb vi vt bs u w' :=
  ⟨h.g.below hb, h.sb.below hb, h.bx.below hb, h.own, h.low.trans (hb.mono (by have := h.pos; omega)), ⟨h.pos.1, h.pos.2.1, Nat.lt_of_lt_of_le h.pos.2.2.1 hb.size, h.pos.2.2.2⟩⟩
theorem EnW.next {w' : World} {bs' : List Nat} {u' : Value} (h : EnW x W W2 b xb vi vt bs u wr) (hg : WrG b u wr bs' u' w') : EnW x W W2 b xb vi vt bs' u' w' := by
  have hp := h.pos
  have hk : ∀ k, k ≤ xb → k ≠ b → w'.heap[k]? = wr.heap[k]? := fun k h1 h2 => hg.keep (by omega) h2 (fun g hgg => by have := h.own g hgg; omega)
  refine ⟨hg.w, (hk _ (by omega) (by omega)).trans h.sb, (hk _ (by omega) (by omega)).trans h.bx, fun g hgg => ?_, h.low.trans (hg.low h.g (Nat.le_refl _) (by omega)), ⟨hp.1, hp.2.1, Nat.lt_of_lt_of_le hp.2.2.1 hg.turn.size, hp.2.2.2⟩⟩
  rcases hg.own with e | ⟨q, e, hq⟩
  · rw [e] at hgg; exact h.own g hgg
  · rw [e] at hgg; cases hgg; omega
/-- Numbers are written: they lie in a new row. -/
theorem EnW.num (h : EnW x W W2 b xb vi vt bs u wr) (l : List Int) (hl : l.length ≤ 100) (hbs : bs.length ≤ 16700000) (cells : Array Value) (hc : cells = (l.map (Value.int .i64 ·)).toArray) (a : Nat) (ha : a = wr.heap.size) :
    Calls Try.prog 18 #[.agg #[.pointer (some ⟨b, 0, none⟩)], .slice (some ⟨a, 0, none⟩) l.length l.length] (wr.alloc (.cells cells 3)) fun e w' => (∃ y, e = .returned y) ∧ ∃ u', EnW x W W2 b xb vi vt (bs ++ numsB l) u' w' := by
  subst ha
  have hb := ext_alloc (ext_refl wr) (.cells cells 3)
  have hp := h.pos
  have hn : Blk (wr.alloc (.cells cells 3)) wr.heap.size ((l.map (Value.int .i64 ·)).toArray) 3 := by rw [← hc]; exact Blk.new _ _ _
  refine (wnum_any b wr.heap.size bs u l l.length (wr.alloc (.cells cells 3)) (h.g.below hb) hn hl hbs (by rw [World.size_alloc]; omega) ⟨by omega, fun g hg e => by have := (h.g.own.lt g hg).2; omega⟩).mono ?_
  rintro e w' ⟨h1, u', hG⟩
  exact ⟨h1, u', (h.below hb).next hG⟩
end
theorem ho_fit {x : Su} (h : (setupB x).length ≤ 15000000) (h6 : x.ths.length ≤ 6) : (putN x.init.length).length + (x.init.flatMap (fun n => putN (zigZ n))).length ≤ 15000000 ∧ (putN x.init.length ++ x.init.flatMap (fun n => putN (zigZ n))).length ≤ 16700000 ∧
    (putN x.init.length ++ x.init.flatMap (fun n => putN (zigZ n)) ++ numsB [x.st, x.ck, x.tr, (x.ths.length : Int)]).length + (x.ths.flatMap thB).length ≤ 15000000 := by
  have hn : numsB [x.st, x.ck, x.tr, (x.ths.length : Int)] = putN (u64 x.st) ++ putN (u64 x.ck) ++ putN (u64 x.tr) ++ putN x.ths.length := by simp [numsB, u64_nat (show x.ths.length < 18446744073709551616 by omega)]
  unfold setupB at h
  rw [hn]
  simp only [List.length_append] at h ⊢
  omega
theorem putN_lt (n : Nat) : ∀ c ∈ putN n, c < 256 := putF_byte 10 n
mutual
theorem exprB_lt : ∀ (e : Ex), ∀ c ∈ exprB e, c < 256
  | .mk op n args, c, h => by
    simp only [exprB] at h
    rcases List.mem_append.1 h with h | h
    · exact putN_lt _ c h
    · split at h
      · exact putN_lt _ c h
      · split at h
        · exact putN_lt _ c h
        · exact exprsB_lt args c h
theorem exprsB_lt : ∀ (l : List Ex), ∀ c ∈ exprsB l, c < 256
  | [], c, h => by simp [exprsB] at h
  | x :: xs, c, h => by
    simp only [exprsB] at h
    rcases List.mem_append.1 h with h | h
    · exact exprB_lt x c h
    · exact exprsB_lt xs c h
end
theorem letB_lt {t : Int} {a b : Ex} {bo el : List Nat} (h1 : ∀ c ∈ bo, c < 256) (h2 : ∀ c ∈ el, c < 256) (k : Nat) : ∀ c ∈ letB t a b bo el k, c < 256 := by
  intro c h
  unfold letB at h
  split at h
  · exact putN_lt _ c h
  split at h
  · exact exprB_lt a c h
  split at h
  · exact exprB_lt b c h
  split at h
  · exact h1 c h
  split at h
  · exact h2 c h
  · cases h
mutual
theorem stB_lt : ∀ (s : St), ∀ c ∈ stB s, c < 256
  | .mk kind tt a b body els, c, h => by
    simp only [stB] at h
    rcases List.mem_append.1 h with h | h
    · exact putN_lt _ c h
    · obtain ⟨k, -, hk⟩ := List.mem_flatMap.1 h
      refine letB_lt (fun c hc => ?_) (fun c hc => ?_) k c hk
      · rcases List.mem_append.1 hc with h | h
        · exact putN_lt _ c h
        · exact stsB_lt body c h
      · rcases List.mem_append.1 hc with h | h
        · exact putN_lt _ c h
        · exact stsB_lt els c h
theorem stsB_lt : ∀ (l : List St), ∀ c ∈ stsB l, c < 256
  | [], c, h => by simp [stsB] at h
  | x :: xs, c, h => by
    simp only [stsB] at h
    rcases List.mem_append.1 h with h | h
    · exact stB_lt x c h
    · exact stsB_lt xs c h
end
theorem setupB_lt (x : Su) : ∀ c ∈ setupB x, c < 256 := by
  intro c h
  unfold setupB at h
  simp only [List.mem_append, List.mem_flatMap] at h
  rcases h with ((h | ⟨n, -, h⟩) | ((h | h) | h) | h) | ⟨th, -, h⟩
  · exact putN_lt _ c h
  · exact putN_lt _ c h
  · exact putN_lt _ c h
  · exact putN_lt _ c h
  · exact putN_lt _ c h
  · exact putN_lt _ c h
  · unfold thB at h
    rcases List.mem_append.1 h with h | h
    · exact putN_lt _ c h
    · obtain ⟨t, -, h⟩ := List.mem_flatMap.1 h
      unfold blockB at h
      rcases List.mem_append.1 h with h | h
      · exact putN_lt _ c h
      · exact stsB_lt t c h
theorem int_len (n : Nat) (h : n ≤ 1000) : IntKind.i64.wrap (n : Int) = (n : Int) := IntWalk.i64_in _ (by omega)
set_option maxHeartbeats 4000000 in
set_option maxRecDepth 100000 in
set_option maxHeartbeats 4000000 in
theorem enc_ok (x : Su) (vi vt : Value) (W : World) (hi : RdSl RdI W x.init vi) (ht : RdThs W x.ths vt) (ho : EncOk x) :
    Calls Try.prog 7 #[.agg #[.int .i64 x.st, .int .i64 x.ck, .int .i64 x.tr, vi, vt]] W (EncP x W) := by
  have hi0 := hi
  have ht0 := ht
  obtain ⟨pi, ci, rfl, hil, -⟩ := hi0
  obtain ⟨pt, ct, rfl, htl, -⟩ := ht0
  obtain ⟨W1, hW1⟩ : ∃ W1, W1 = W.alloc (.cells #[.int .i64 x.st, .int .i64 x.ck, .int .i64 x.tr, .slice pi x.init.length ci, .slice pt x.ths.length ct] 27) := ⟨_, rfl⟩
  have hb1 : Below W.heap.size W W1 := by rw [hW1]; exact ext_alloc (ext_refl _) _
  have hsb : Blk W1 W.heap.size #[.int .i64 x.st, .int .i64 x.ck, .int .i64 x.tr, .slice pi x.init.length ci, .slice pt x.ths.length ct] 27 := by rw [hW1]; exact Blk.new _ _ _
  have HCK := hid (check_any x.st x.ck x.tr pi x.init.length ci x.ths _ W1 (ht.below hb1) ho.ok hil)
  have HI := hid (RdSl.below (R := RdI) (fun _ _ _ _ hb h => RdI.below hb h) hb1 hi)
  have HT := hid (ht.below hb1)
  have HO := hid ho
  have HB1 := hid hb1
  have HSB := hid hsb
  have HW1 := hid hW1
  have hgood := ho.good.1
  have HN0 := hid hgood.n0
  have HL0 := hid hgood.l0
  have HFIT := hid ho.fit
  have hni := hgood.n0
  have hnt := hgood.l0
  obtain ⟨Q, hQ⟩ : ∃ Q, Q = EncP x W := ⟨_, rfl⟩
  rw [← hQ]
  have HQ := hid hQ
  clear hi ht ho hil htl hb1 hsb hW1 hgood hQ
  go_enter Try.func7, Try.ntmps7
  go_wp2_with fail
  rw [← HW1.out]
  refine HCK.out.mono ?_
  rintro e' W2 ⟨hres, hb2⟩
  rcases hres with ⟨rfl, -⟩ | ⟨-, hng⟩
  case inr => exact absurd HO.out.good hng
  have HI2 := hid (RdSl.below (R := RdI) (fun _ _ _ _ hb h => RdI.below hb h) hb2 HI.out)
  have HT2 := hid (HT.out.below hb2)
  have HB2 := hid (ext_trans HB1.out hb2)
  have HSB2 := hid (HSB.out.below hb2)
  clear hb2 HCK HW1 HI HT
  go_wp2_with fail
  refine (newWriter_any 16777216 W2 ⟨by omega, by omega⟩).mono ?_
  rintro e' W3 ⟨rfl, hw3, hb3⟩
  have hb4 := ext_alloc (ext_refl W3) (.cells #[.pointer (some ⟨W2.heap.size, 0, none⟩)] 52)
  have hE4 : EnW x W W2 W2.heap.size W3.heap.size (.slice pi x.init.length ci) (.slice pt x.ths.length ct) [] (.slice none 0 0) (W3.alloc (.cells #[.pointer (some ⟨W2.heap.size, 0, none⟩)] 52)) :=
    ⟨(WrtO.new hw3).below hb4, (HSB2.out.below hb3).below hb4, Blk.new _ _ _, (fun g hg => by simp [Value.ownBlock] at hg), ext_trans hb3 hb4, ⟨HSB2.out.lt, hw3.lt, by simp, rfl⟩⟩
  have HE4 := hid hE4
  have x4 := hE4.bx.cell 0 (v := .pointer (some ⟨W2.heap.size, 0, none⟩)) rfl
  have s3 := hE4.sb.cell 3 (v := .slice pi x.init.length ci) rfl
  have li := int_len x.init.length (by omega)
  have lt' := int_len x.ths.length (by omega)
  clear hb3 hw3 hb4 hE4 HSB HSB2
  go_wp2_with fail
  refine (HE4.out.num [(x.init.length : Int)] (by simp) (by simp) _ rfl _ (by simp)).mono ?_
  rintro e' w5 ⟨⟨y, rfl⟩, u5, hE5⟩
  rw [List.nil_append, numsB_one, u64_nat (by omega)] at hE5
  have HE5 := hid hE5
  have s5 := hE5.sb.cell 3 (v := .slice pi x.init.length ci) rfl
  have hfit := ho_fit HFIT.out hnt
  have HF := hid hfit
  obtain ⟨b, hbb⟩ : ∃ b, b = W2.heap.size := ⟨_, rfl⟩
  obtain ⟨xb, hxb⟩ : ∃ xb, xb = W3.heap.size := ⟨_, rfl⟩
  rw [← hbb] at HE5 ⊢
  rw [← hxb] at HE5 ⊢
  have HBB := hid hbb
  clear hE5 HE4 x4 s3 hfit hbb hxb
  go_wp2_with fail
  go_loopw [34, 8] (fun i _ wr => ∃ (k : Nat) (u : Value) (W' : World), W' = wr ∧ k ≤ x.init.length ∧ i = .int .i64 k ∧ EnW x W W2 b xb (.slice pi x.init.length ci) (.slice pt x.ths.length ct) (putN x.init.length ++ (x.init.take k).flatMap (fun n => putN (zigZ n))) u W') (fun i _ _ => x.init.length - (intOf i).toNat)
  case atStart => exact ⟨0, _, _, rfl, Nat.zero_le _, rfl, by simpa using HE5.out⟩
  case round =>
    clear HE5
    obtain ⟨k, u, wr, hwr, hk, rfl, hE⟩ := hrel
    subst hwr
    clear s5
    by_cases hlt : k < x.init.length
    · obtain ⟨pi', ci', e1, -, hx⟩ := HI2.out
      obtain ⟨q, off, e2, hrow⟩ := hx (by intro h; rw [h] at hlt; simp at hlt)
      subst e2
      obtain ⟨vx, d0, rfl, hxr⟩ := RdRow.get x.init hrow k hlt
      cases e1
      have hlo := hE.low
      rw [HBB.out] at hlo
      have q0 := later hlo d0
      have hql := lt_of_cell q0
      have htk := flatG_take (f := fun n => putN (zigZ n)) x.init k hlt
      have hle := flatG_le (f := fun n => putN (zigZ n)) x.init k hlt
      have hfa := HF.out.1
      generalize x.init[k] = xk at *
      have HC := hid (wintM_any b _ u xk wr hE.g hxr (by rw [List.length_append]; omega) (by have := hE.pos; omega))
      have HE := hid hE
      have HTK := hid htk
      have HLT := hid hlt
      have j1 : decide ((k : Int) < (x.init.length : Int)) = true := by rw [decide_eq_true_iff]; omega
      have j2 : decide (k < x.init.length) = true := decide_eq_true hlt
      have j3 : IntKind.i64.wrap ((k : Int) + 1) = (k : Int) + 1 := IntWalk.i64_in _ (by omega)
      clear hE htk hle hfa hx hrow d0 hlo hlt hk hxr
      go_wp2_with fail
      refine HC.out.mono ?_
      rintro e' w6 ⟨⟨y, rfl⟩, u6, hG6⟩
      have HE6 := hid (HE.out.next hG6)
      clear hG6 q0
      go_wp2_with fail
      go_roundw
      case rel => exact ⟨k + 1, u6, _, rfl, HLT.out, by go_num, by rw [HTK.out, ← List.append_assoc]; exact HE6.out⟩
      case measure => have := HLT.out; simp [intOf]; omega
    · obtain rfl : k = x.init.length := by omega
      have j1 : decide ((x.init.length : Int) < (x.init.length : Int)) = false := by rw [decide_eq_false_iff_not]; omega
      rw [List.take_length] at hE
      have x6 := hE.bx.cell 0 (v := .pointer (some ⟨b, 0, none⟩)) rfl
      have s0 := hE.sb.cell 0 (v := .int .i64 x.st) rfl
      have s1 := hE.sb.cell 1 (v := .int .i64 x.ck) rfl
      have s2 := hE.sb.cell 2 (v := .int .i64 x.tr) rfl
      have s4 := hE.sb.cell 4 (v := .slice pt x.ths.length ct) rfl
      have hfa := HF.out.2.1
      have HN := hid (hE.num [x.st, x.ck, x.tr, (x.ths.length : Int)] (by simp) (by omega) _ rfl _ rfl)
      have HE := hid hE
      clear hE hk hlt
      go_wp2_with fail
      refine HN.out.mono ?_
      rintro e' w7 ⟨⟨y, rfl⟩, u7, hE7⟩
      have s7 := hE7.sb.cell 4 (v := .slice pt x.ths.length ct) rfl
      obtain ⟨pre, hpre⟩ : ∃ pre, pre = putN x.init.length ++ x.init.flatMap (fun n => putN (zigZ n)) ++ numsB [x.st, x.ck, x.tr, (x.ths.length : Int)] := ⟨_, rfl⟩
      rw [← hpre] at hE7
      have HPRE := hid hpre
      have HE7 := hid hE7
      have hfb := HF.out.2.2
      rw [← hpre] at hfb
      have HFB := hid hfb
      clear hE7 HN HE x6 s0 s1 s2 s4 hpre hfa hfb
      go_wp2_with fail
      go_loopw [57, 10, 12, 66, 67, 68] (fun i _ _ _ _ _ wr => ∃ (k : Nat) (u : Value) (W' : World), W' = wr ∧ k ≤ x.ths.length ∧ i = .int .i64 k ∧ EnW x W W2 b xb (.slice pi x.init.length ci) (.slice pt x.ths.length ct) (pre ++ (x.ths.take k).flatMap thB) u W') (fun i _ _ _ _ _ _ => x.ths.length - (intOf i).toNat)
      case atStart => exact ⟨0, _, _, rfl, Nat.zero_le _, rfl, by simpa using HE7.out⟩
      case round =>
        clear HE7
        obtain ⟨k, u, wr, hwr, hk, rfl, hE⟩ := hrel
        subst hwr
        clear s7
        by_cases hlt : k < x.ths.length
        · obtain ⟨pt', ct', e1, -, hx⟩ := HT2.out
          obtain ⟨q, off, e2, hrow⟩ := hx (by intro h; rw [h] at hlt; simp at hlt)
          subst e2
          obtain ⟨vx, d0, hth⟩ := RdRow.get x.ths hrow k hlt
          cases e1
          have hlo := hE.low
          rw [HBB.out] at hlo
          have q0 := later hlo d0
          have hql := lt_of_cell q0
          have x6 := hE.bx.cell 0 (v := .pointer (some ⟨b, 0, none⟩)) rfl
          have htk := flatG_take (f := thB) x.ths k hlt
          have hle := flatG_le (f := thB) x.ths k hlt
          have hmem := List.getElem_mem hlt
          have hgd := HO.out.good.2 _ hmem
          have hok := HO.out.ok _ hmem
          have hkd := HO.out.kd _ hmem
          generalize x.ths[k] = th at *
          have hth0 := hth
          obtain ⟨pth, cth, rfl, hthl, hxt⟩ := hth0
          have hl6 := hgd.1
          have lth := int_len th.length (by omega)
          have hfth : (pre ++ (x.ths.take k).flatMap thB).length + (putN th.length).length + (th.flatMap blockB).length ≤ 15000000 := by
            have h1 : (thB th).length = (putN th.length).length + (th.flatMap blockB).length := by unfold thB; rw [List.length_append]
            have h2 := HFB.out
            rw [List.length_append]
            omega
          have HN := hid (hE.num [(th.length : Int)] (by simp) (by omega) _ rfl _ rfl)
          have HE := hid hE
          have HTK := hid htk
          have HLT := hid hlt
          have HXT := hid hxt
          have HKD := hid hkd
          have HFTH := hid hfth
          have j1 : decide ((k : Int) < (x.ths.length : Int)) = true := by rw [decide_eq_true_iff]; omega
          have j2 : decide (k < x.ths.length) = true := decide_eq_true hlt
          have j3 : IntKind.i64.wrap ((k : Int) + 1) = (k : Int) + 1 := IntWalk.i64_in _ (by omega)
          have HL6 := hid hl6
          clear hE htk hle hx hrow d0 hlo hlt hk hmem hgd hok hkd hxt hfth hth hthl hl6
          go_wp2_with fail
          refine HN.out.mono ?_
          rintro e' w8 ⟨⟨y, rfl⟩, u8, hE8⟩
          rw [numsB_one, u64_nat (by have := HL6.out; omega)] at hE8
          have HE8 := hid hE8
          clear hE8 HN HE q0 x6
          go_wp2_with fail
          go_loopw [68, 12] (fun i _ wr => ∃ (j : Nat) (u : Value) (W' : World), W' = wr ∧ j ≤ th.length ∧ i = .int .i64 j ∧ EnW x W W2 b xb (.slice pi x.init.length ci) (.slice (some ⟨q, off, none⟩) x.ths.length ct) (pre ++ (x.ths.take k).flatMap thB ++ putN th.length ++ (th.take j).flatMap blockB) u W') (fun i _ _ => th.length - (intOf i).toNat)
          case atStart => exact ⟨0, _, _, rfl, Nat.zero_le _, rfl, by simpa using HE8.out⟩
          case round =>
            clear HE8
            obtain ⟨j, u9, w9, hww, hj, rfl, hE⟩ := hrel
            subst hww
            by_cases hlj : j < th.length
            · obtain ⟨q2, off2, e2, hrow⟩ := HXT.out (by intro h; rw [h] at hlj; simp at hlj)
              subst e2
              obtain ⟨vx, d0, htx⟩ := RdRow.get th hrow j hlj
              have hlo := hE.low
              rw [HBB.out] at hlo
              have q0 := later hlo d0
              have hql2 := lt_of_cell q0
              have x6 := hE.bx.cell 0 (v := .pointer (some ⟨b, 0, none⟩)) rfl
              have htk := flatG_take (f := blockB) th j hlj
              have hle := flatG_le (f := blockB) th j hlj
              have hkd := HKD.out _ (List.getElem_mem hlj)
              have hf := HFTH.out
              generalize th[j] = tx at *
              have HC := hid (wblock_any (sizeT tx) tx b _ u9 vx W2 w9 (Nat.le_refl _) hE.g HBB.out.symm hE.low (by have := hE.pos; omega) htx hkd (by simp only [List.length_append] at hf ⊢; omega))
              obtain ⟨ptx, ctx, rfl, -, -⟩ := htx
              have HE := hid hE
              have HTKJ := hid htk
              have HLJ := hid hlj
              have j1 : decide ((j : Int) < (th.length : Int)) = true := by rw [decide_eq_true_iff]; omega
              have j2 : decide (j < th.length) = true := decide_eq_true hlj
              have j3 : IntKind.i64.wrap ((j : Int) + 1) = (j : Int) + 1 := IntWalk.i64_in _ (by have := HL6.out; omega)
              clear hE htk hle hrow d0 hlo hlj hj hkd hf
              go_wp2_with fail
              refine HC.out.mono ?_
              rintro e' w10 ⟨⟨y, rfl⟩, u10, hG⟩
              have HE10 := hid (HE.out.next hG)
              clear hG q0 x6
              go_wp2_with fail
              go_roundw
              case rel => exact ⟨j + 1, u10, _, rfl, HLJ.out, by go_num, by rw [HTKJ.out, ← List.append_assoc]; exact HE10.out⟩
              case measure => have := HLJ.out; simp [intOf]; omega
            · obtain rfl : j = th.length := by omega
              have j1 : decide ((th.length : Int) < (th.length : Int)) = false := by rw [decide_eq_false_iff_not]; omega
              rw [List.take_length] at hE
              have HE := hid hE
              clear hE hj hlj
              go_wp2_with fail
              go_roundw
              case rel => exact ⟨k + 1, u9, _, rfl, HLT.out, by go_num, by rw [HTK.out, thB, ← List.append_assoc, ← List.append_assoc]; exact HE.out⟩
              case measure => have := HLT.out; simp [intOf]; omega
        · obtain rfl : k = x.ths.length := by omega
          have j1 : decide ((x.ths.length : Int) < (x.ths.length : Int)) = false := by rw [decide_eq_false_iff_not]; omega
          rw [List.take_length] at hE
          have hall : pre ++ x.ths.flatMap thB = setupB x := by
            rw [HPRE.out, setupB]
            simp only [numsB, List.flatMap_cons, List.flatMap_nil, List.append_nil, List.append_assoc]
            rw [u64_nat (by omega)]
          rw [hall] at hE
          have h8 := setupB_lt x
          have HT := hid (wText_any b 16777216 (setupB x) wr hE.g.wrt h8)
          have hby := byt_bstr h8
          have HWR := hid (wrap_x (bstr (setupB x)) wr (by rw [← byt_len, hby]; have := HFIT.out; omega))
          rw [hby] at HWR
          have HLW := hid (HB2.out.trans (hE.low.mono (by have := hE.pos; omega)))
          clear hE hk hlt hall h8 hby
          go_wp2_with fail
          refine HT.out.mono ?_
          rintro e' w9 ⟨rfl, rfl⟩
          go_wp2_with fail
          refine HWR.out.mono ?_
          rintro e' w10 ⟨rfl, hb10⟩
          go_wp2_with fail
          rw [HQ.out]
          exact ⟨rfl, ext_trans HLW.out hb10⟩
end Go.Proofs.Ytaklfjjkeebheaa
