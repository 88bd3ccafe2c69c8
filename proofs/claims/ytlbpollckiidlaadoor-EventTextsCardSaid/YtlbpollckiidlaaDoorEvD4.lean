/-
  Walk: the document's split of a text at its spaces.
-/
import Derived.Test.YtlbpollckiidlaaDoorEvD3
namespace Go.Proofs.YtlbpollckiidlaaDoor
set_option linter.unusedVariables false
set_option linter.unusedSimpArgs false
open Go Go.RowKit
def toks (cur : List UInt8) : List UInt8 → List (List UInt8)
  | [] => [cur]
  | c :: r => if c = 32 then cur :: toks [] r else toks (cur ++ [c]) r
theorem toks_tok : ∀ (t r cur : List UInt8), (32 : UInt8) ∉ t → toks cur (t ++ 32 :: r) = (cur ++ t) :: toks [] r
  | [], r, cur, _ => by simp [toks]
  | c :: t, r, cur, h => by
    have hc : c ≠ 32 := fun e => h (by simp [e])
    have ht : (32 : UInt8) ∉ t := fun e => h (by simp [e])
    rw [List.cons_append, toks, if_neg hc, toks_tok t r _ ht]
    simp
theorem toks_end : ∀ (t cur : List UInt8), (32 : UInt8) ∉ t → toks cur t = [cur ++ t]
  | [], cur, _ => by simp [toks]
  | c :: t, cur, h => by
    have hc : c ≠ 32 := fun e => h (by simp [e])
    have ht : (32 : UInt8) ∉ t := fun e => h (by simp [e])
    rw [toks, if_neg hc, toks_end t _ ht]
    simp
theorem toks_join : ∀ (x : List UInt8) (r : List (List UInt8)), (∀ t ∈ x :: r, (32 : UInt8) ∉ t) → toks [] (Lib.join (x :: r) [32]) = x :: r
  | x, [], h => by
    have := toks_end x [] (h x (by simp))
    simpa [Lib.join] using this
  | x, y :: r, h => by
    rw [join_two, toks_tok x _ [] (h x (by simp)), toks_join y r fun t ht => h t (by simp [List.mem_cons.1 ht])]
    rfl
theorem toks_show (e : Ev) : toks [] (showT e) = Lib.itoa e.th :: kindName e.kind :: (partsE e).map Lib.itoa := toks_join _ _ (toks_space e)
theorem toks_len : ∀ (l cur : List UInt8), (toks cur l).length ≤ l.length + 1
  | [], cur => by simp [toks]
  | c :: r, cur => by
    rw [toks]
    split
    · have := toks_len r []; simp; omega
    · have := toks_len r (cur ++ [c]); simp; omega
theorem toks_mem : ∀ (l cur : List UInt8), ∀ t ∈ toks cur l, t.length ≤ cur.length + l.length
  | [], cur, t, h => by
    rw [toks, List.mem_singleton] at h
    subst h; simp
  | c :: r, cur, t, h => by
    rw [toks] at h
    split at h
    · rcases List.mem_cons.1 h with rfl | h
      · simp
      · have := toks_mem r [] t h; simp at this ⊢; omega
    · have := toks_mem r (cur ++ [c]) t h; simp at this ⊢; omega
theorem ba_slice (l : List UInt8) (a b : Nat) : (⟨l.toArray⟩ : ByteArray).extract a b = ⟨((l.drop a).take (b - a)).toArray⟩ := by
  apply ByteArray.ext
  simp [ByteArray.data_extract]
/-- Where the loop stands. -/
structure SplitAt (l : List UInt8) (done : List (List UInt8)) (at_ i : Nat) : Prop where
  le : at_ ≤ i
  il : i ≤ l.length
  few : done.length ≤ i
  all : toks [] l = done ++ toks ((l.drop at_).take (i - at_)) (l.drop i)
theorem SplitAt.start (l : List UInt8) : SplitAt l [] 0 0 := ⟨Nat.le_refl _, Nat.zero_le _, Nat.le_refl _, by simp⟩
theorem SplitAt.space {l : List UInt8} {done : List (List UInt8)} {at_ i : Nat} (h : SplitAt l done at_ i) (hi : i < l.length) (hc : l[i] = 32) : SplitAt l (done ++ [(l.drop at_).take (i - at_)]) (i + 1) (i + 1) := by
  refine ⟨Nat.le_refl _, hi, ?_, ?_⟩
  · rw [List.length_append]; have := h.few; simp; omega
  · rw [h.all, List.drop_eq_getElem_cons hi, toks, if_pos hc]
    simp
theorem SplitAt.other {l : List UInt8} {done : List (List UInt8)} {at_ i : Nat} (h : SplitAt l done at_ i) (hi : i < l.length) (hc : l[i] ≠ 32) : SplitAt l done at_ (i + 1) := by
  have hle := h.le
  refine ⟨by omega, hi, by have := h.few; omega, ?_⟩
  rw [h.all, List.drop_eq_getElem_cons hi, toks, if_neg hc]
  congr 2
  have e : i + 1 - at_ = (i - at_) + 1 := by omega
  have hlt : i - at_ < (l.drop at_).length := by rw [List.length_drop]; omega
  rw [e, List.take_succ_eq_append_getElem hlt, List.getElem_drop]
  congr 2
  simp only [show at_ + (i - at_) = i by omega]
theorem SplitAt.fin {l : List UInt8} {done : List (List UInt8)} {at_ : Nat} (h : SplitAt l done at_ l.length) : toks [] l = done ++ [l.drop at_] := by
  have := h.all
  rw [List.drop_length, toks, List.take_of_length_le (by rw [List.length_drop]; omega)] at this
  exact this
def SplitP (l : List UInt8) (w : World) (e : Ending) (w' : World) : Prop := ∃ v, e = .returned v ∧ w'.ownsRow w.heap.size 9 1 v (toks [] l).length ((toks [] l).map strV) ∧ Below w.heap.size w w'
theorem owns_app {w : World} {B n : Nat} {e : TypeId} {v : Value} {done : List (List UInt8)} {t : List UInt8} (h : w.ownsRow B e 1 v (n + 1) (done.map strV ++ [.string ⟨t.toArray⟩])) : w.ownsRow B e 1 v (n + 1) ((done ++ [t]).map strV) := by
  rw [List.map_append]; exact h
theorem row_grown2 {w wr w1 : World} {B n size : Nat} {e : TypeId} {v : Value} {xs : List Value} {o : Obj} (hb : Below B w wr) (h : wr.ownsRow B e size v n xs) (hg : (wr.alloc o).grownBy w1 v.ownBlock) (hB : B ≤ wr.heap.size) : Below B w w1 := row_grown hb h hg hB
set_option maxRecDepth 100000 in
set_option maxHeartbeats 4000000 in
theorem rsplit_any (l : List UInt8) (hl : l.length ≤ 1000) (w : World) : Calls Tryd.prog 30 #[.string ⟨l.toArray⟩] w (SplitP l w) := by
  obtain ⟨i0, hi, hz0, hz1, hz2⟩ := info_parts infoStr
  have HL := hid hl
  have j1 : wrap64 (l.length : Int) = (l.length : Int) := by unfold wrap64; omega
  have HO0 : Hid (w.ownsRow w.heap.size 9 1 (.slice none 0 0) 0 (([] : List (List UInt8)).map strV)) := hid ⟨rfl, Or.inl ⟨rfl, rfl⟩⟩
  clear hl
  unfold SplitP
  go_enter Tryd.func30, Tryd.ntmps30
  go_wp2_with fail
  go_loopw [3, 4, 5] (fun o a i wr => ∃ (done : List (List UInt8)) (at_ n : Nat), SplitAt l done at_ n ∧ a = .int .i64 (at_ : Int) ∧ i = .int .i64 (n : Int) ∧ Hid (wr.ownsRow w.heap.size 9 1 o done.length (done.map strV)) ∧ Hid (Below w.heap.size w wr)) (fun _ _ i _ => l.length - (intOf i).toNat)
  case atStart => exact ⟨[], 0, 0, SplitAt.start l, rfl, rfl, HO0, hid (ext_refl _)⟩
  case round =>
    obtain ⟨done, at_, n, hsp, rfl, rfl, HO, HB⟩ := hrel
    rename_i wr
    have HSP := hid hsp
    have h1 := hsp.le
    have h2 := hsp.il
    have h3 := hsp.few
    clear hsp
    have hlen := HL.out
    have k3 : (0 : Int) ≤ (n : Int) := by omega
    have k6 : (0 : Int) ≤ (at_ : Int) := by omega
    have hML : done.length + 1 ≤ maxLen := by unfold maxLen; omega
    have hBY : (done.length + 1) * 16 ≤ 140737488355328 := by omega
    by_cases hlt : n < l.length
    · have k1 : decide ((n : Int) < (l.length : Int)) = true := decide_eq_true (by omega)
      have k2 : decide (n < l.length) = true := decide_eq_true hlt
      have k4 : (n : Int) < (l.length : Int) := by omega
      have k5 : wrap64 ((n : Int) + 1) = (n : Int) + 1 := by unfold wrap64; omega
      have hlt2 : n < (⟨l.toArray⟩ : ByteArray).size := by simpa [ByteArray.size] using hlt
      have hc := ba_get l n hlt2
      obtain ⟨c, hcc⟩ : ∃ c, (l[n]'hlt) = c := ⟨_, rfl⟩
      rw [hcc] at hc
      obtain ⟨m, hm⟩ : ∃ m, c.toNat = m := ⟨_, rfl⟩
      have hx : ((⟨l.toArray⟩ : ByteArray)[n]'hlt2).toNat = m := by rw [hc]; exact hm
      have HLT := hid hlt
      by_cases h32 : m = 32
      · subst h32
        have hc32 : (l[n]'hlt) = 32 := by rw [hcc]; exact UInt8.toNat_inj.1 hm
        have HSP2 := hid (HSP.out.space hlt hc32)
        have hex : (⟨l.toArray⟩ : ByteArray).extract at_ n = ⟨((l.drop at_).take (n - at_)).toArray⟩ := ba_slice l at_ n
        have k7 : (at_ : Int) ≤ (n : Int) := by omega
        have k8 : (n : Int) ≤ (l.length : Int) := by omega
        generalize (l.drop at_).take (n - at_) = tk at hex HSP2
        have HBA := hid HB.out.size
        have hBA : w.heap.size ≤ (wr.alloc (.cells #[.string ⟨tk.toArray⟩] 9)).heap.size := by have := HBA.out; show _ ≤ (wr.heap.push _).size; rw [Array.size_push]; omega
        have HX := hid (HO.out.alloc (.cells #[.string ⟨tk.toArray⟩] 9))
        clear hlt hcc hc hm hc32 h1 h2 h3 hlen
        go_wp2_with (at_builtin; refine wpList_append_own _ rfl _ _ 40 rfl w.heap.size 9 i0 (.string ByteArray.empty) 1 16 Tryd.underlying40 hi hz0 hz1 hz2 rfl (by decide) _ _ _ rfl HX.out ⟨wr.heap.size, 0, none⟩ 1 1 [.string ⟨tk.toArray⟩] rfl rfl (cell_one _ _ _) (by simp [Value.oneCell']) hML hBY hBA ?_; intro v' w4 hown' hgrow _; have HB7 := hid (row_grown2 HB.out HO.out hgrow HBA.out); have HO7 := hid (owns_app hown'); clear hown' hgrow)
        go_roundw
        case rel => exact ⟨done ++ [tk], n + 1, n + 1, HSP2.out, by simp [k5], by simp [k5], by rw [List.length_append]; exact HO7, HB7⟩
        case measure =>
          rw [k5]
          have := HLT.out
          clear k1 k2 k3 k4 k5 k6 k7 k8 hML hBY hBA
          simp only [intOf]
          omega
      · have hne : (l[n]'hlt) ≠ 32 := fun e => h32 (by rw [← hm, ← hcc, e]; rfl)
        have HSP2 := hid (HSP.out.other hlt hne)
        have e1 : ((m : Int) == 32) = false := beq_eq_false_iff_ne.2 (by omega)
        have e2 : (m == 32) = false := beq_eq_false_iff_ne.2 h32
        clear hlt hcc hc hm hne h1 h2 h3 hlen h32
        go_wp2_with fail
        go_roundw
        case rel => exact ⟨done, at_, n + 1, HSP2.out, rfl, by simp [k5], HO, HB⟩
        case measure =>
          rw [k5]
          have := HLT.out
          clear k1 k2 k3 k4 k5 k6 hML hBY
          simp only [intOf]
          omega
    · obtain rfl : n = l.length := by omega
      have k1 : decide ((l.length : Int) < (l.length : Int)) = false := decide_eq_false (by omega)
      have hex : (⟨l.toArray⟩ : ByteArray).extract at_ l.length = ⟨(l.drop at_).toArray⟩ := by
        rw [ba_slice, List.take_of_length_le (by rw [List.length_drop]; omega)]
      have k7 : (at_ : Int) ≤ (l.length : Int) := by omega
      have HF := hid HSP.out.fin
      generalize l.drop at_ = tk at hex HF
      have HBA := hid HB.out.size
      have hBA : w.heap.size ≤ (wr.alloc (.cells #[.string ⟨tk.toArray⟩] 9)).heap.size := by have := HBA.out; show _ ≤ (wr.heap.push _).size; rw [Array.size_push]; omega
      have HX := hid (HO.out.alloc (.cells #[.string ⟨tk.toArray⟩] 9))
      clear hlt h1 h2 h3 hlen
      go_wp2_with (at_builtin; refine wpList_append_own _ rfl _ _ 40 rfl w.heap.size 9 i0 (.string ByteArray.empty) 1 16 Tryd.underlying40 hi hz0 hz1 hz2 rfl (by decide) _ _ _ rfl HX.out ⟨wr.heap.size, 0, none⟩ 1 1 [.string ⟨tk.toArray⟩] rfl rfl (cell_one _ _ _) (by simp [Value.oneCell']) hML hBY hBA ?_; intro v' w4 hown' hgrow _; have HB7 := hid (row_grown2 HB.out HO.out hgrow HBA.out); have HO7 := hid (owns_app hown'); clear hown' hgrow)
      go_ret
      exact ⟨_, rfl, by rw [HF.out, List.length_append]; exact HO7.out, HB7.out⟩
end Go.Proofs.YtlbpollckiidlaaDoor
