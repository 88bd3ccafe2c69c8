/-
  Walks: FrameAdded.
-/
import Derived.Test.YtonckpblbdopmaaFrL3
import Derived.Test.YtonckpblbdopmaaBent
import Derived.WalkLawsBesides
import Derived.Deep.DeepCutAuto
import Derived.Deep.CutBlock
import Derived.Laws.MakeOwn
namespace Go.Proofs.Ytonckpblbdopmaa
set_option linter.unusedVariables false
open Go Go.RowKit

/-- Three registers, put together. -/
theorem regN_three (a b c : List Nat) (r s t : Nat) (h1 : a.length = b.length) (h2 : a.length = c.length) : regN (r ^^^ s ^^^ t) (xorL (xorL a b) c) = regN r a ^^^ regN s b ^^^ regN t c := by
  have hl : (xorL a b).length = a.length := by
    clear h2
    induction a generalizing b with
    | nil => cases b <;> simp [xorL]
    | cons x xs ih => cases b with
      | nil => simp at h1
      | cons y ys => simp [xorL, ih ys (by simpa using h1)]
  rw [regN_xor (xorL a b) c _ _ (by rw [hl]; exact h2), regN_xor a b _ _ h1]
theorem xorL_lt : ∀ (a b : List Nat), (∀ c ∈ a, c < 256) → (∀ c ∈ b, c < 256) → ∀ c ∈ xorL a b, c < 256
  | [], _, _, _, c, hc => by simp [xorL] at hc
  | _ :: _, [], _, _, c, hc => by simp [xorL] at hc
  | x :: xs, y :: ys, ha, hb, c, hc => by
    simp only [xorL, List.mem_cons] at hc
    rcases hc with rfl | hc
    · exact xor_lt 8 (ha x (by simp)) (hb y (by simp))
    · exact xorL_lt xs ys (fun z hz => ha z (by simp [hz])) (fun z hz => hb z (by simp [hz])) c hc
theorem sum_three (a b c : List Nat) (h1 : a.length = b.length) (h2 : a.length = c.length) (ha : ∀ x ∈ a, x < 256) (hb : ∀ x ∈ b, x < 256) (hc : ∀ x ∈ c, x < 256) : sumN (xorL (xorL a b) c) = sumN a ^^^ sumN b ^^^ sumN c := by
  rw [sumN_xor _ (xorL_lt _ _ (xorL_lt _ _ ha hb) hc), sumN_xor a ha, sumN_xor b hb, sumN_xor c hc]
  have h := regN_three a b c 4294967295 4294967295 4294967295 h1 h2
  rw [show (4294967295 ^^^ 4294967295 ^^^ 4294967295 : Nat) = 4294967295 by decide] at h
  rw [h]
  generalize regN 4294967295 a = x
  generalize regN 4294967295 b = y
  generalize regN 4294967295 c = z
  refine Nat.eq_of_testBit_eq fun i => ?_
  simp only [Nat.testBit_xor]
  generalize Nat.testBit 4294967295 i = m
  generalize x.testBit i = x
  generalize y.testBit i = y
  generalize z.testBit i = z
  cases m <;> cases x <;> cases y <;> cases z <;> rfl

/-- A row of bytes. -/
def rowB (l : List Nat) : Array Value := (l.map fun (c : Nat) => Value.int .u8 (c : Int)).toArray
theorem rowB_at (l : List Nat) (j : Nat) (h : j < l.length) : (rowB l)[j]? = some (.int .u8 (l[j] : Int)) := by
  unfold rowB; simp [h]
theorem rowB_set (l : List Nat) (j c : Nat) : (rowB l).setIfInBounds j (.int .u8 (c : Int)) = rowB (l.set j c) := by
  unfold rowB; rw [List.setIfInBounds_toArray, List.map_set]
theorem infoU8 : (Try.prog.info? 5).map (fun i => (i.zero, i.size, i.bytes)) = some (some (.int .u8 0), 1, 1) := by kernel_rfl
set_option maxRecDepth 100000 in
set_option maxHeartbeats 4000000 in
theorem run_mkbytes (W : World) (n : Nat) (hn : n ≤ 1000000) : (Instr.makeSlice 23 (.int .i64 (n : Int)) (.int .i64 (n : Int))).run Try.prog W = .ok (.slice (some ⟨W.heap.size, 0, none⟩) n n) (W.alloc (.cells (rowB (List.replicate n 0)) 5)) := by
  obtain ⟨i0, hi, hz0, hz1, hz2⟩ := info_parts infoU8
  rw [run_make W 23 5 i0 _ Try.underlying23 hi hz0 .i64 .i64 n n (by omega) (by omega) (by rw [hz2]; omega) (by omega), hz1]
  congr 1
  simp only [Int.toNat_natCast, Nat.mul_one]
  congr 1
  unfold rowB madeCells
  congr 1
  apply Array.ext
  · simp
  · intro j h1 h2
    simp [Value.cells, Nat.mod_one]
theorem xor3 (x y z : UInt8) : bits .xor .u8 (bits .xor .u8 (x.toNat : Int) (y.toNat : Int)) (z.toNat : Int) = ((x.toNat ^^^ y.toNat ^^^ z.toNat : Nat) : Int) := by
  have hx := x.toNat_lt
  have hy := y.toNat_lt
  have hz := z.toNat_lt
  rw [u8_xor_nat _ _ hx hy, u8_xor_nat _ _ (xor_lt 8 hx hy) hz]
theorem xorL_snoc (a b c : List Nat) (i : Nat) (ha : i < a.length) (hb : i < b.length) (hc : i < c.length) :
    xorL (xorL (a.take (i + 1)) (b.take (i + 1))) (c.take (i + 1)) = xorL (xorL (a.take i) (b.take i)) (c.take i) ++ [a[i] ^^^ b[i] ^^^ c[i]] := by
  induction i generalizing a b c with
  | zero => match a, b, c, ha, hb, hc with
    | x :: xs, y :: ys, z :: zs, _, _, _ => simp [xorL]
  | succ i ih => match a, b, c, ha, hb, hc with
    | x :: xs, y :: ys, z :: zs, ha, hb, hc =>
      have h := ih xs ys zs (by simpa using ha) (by simpa using hb) (by simpa using hc)
      simp only [List.take_succ_cons, xorL, List.cons_append, List.getElem_cons_succ] at h ⊢
      rw [h]
theorem xorL_len3 (a b c : List Nat) (n : Nat) (ha : a.length = n) (hb : b.length = n) (hc : c.length = n) : (xorL (xorL a b) c).length = n := by
  induction n generalizing a b c with
  | zero => match a, ha with
    | [], _ => simp [xorL]
  | succ n ih => match a, b, c, ha, hb, hc with
    | x :: xs, y :: ys, z :: zs, ha, hb, hc => simp only [xorL, List.length_cons, ih xs ys zs (by simpa using ha) (by simpa using hb) (by simpa using hc)]

theorem byt_at (s : ByteArray) (k : Nat) (h : k < s.size) : (byt s)[k]'(by rw [byt_len]; exact h) = s[k].toNat := by
  simp [byt]
  rfl

set_option maxRecDepth 100000 in
set_option maxHeartbeats 4000000 in
theorem frameAdded_walk (a b c : ByteArray) (w : World) (ha : a.size ≤ 9223372036854775807) (hb : b.size ≤ 9223372036854775807) (hc : c.size ≤ 9223372036854775807) :
    Calls Try.prog 3 #[.string a, .string b, .string c] w fun e w' => e = .returned (.bool true) ∧ Below w.heap.size w w' := by
  by_cases hbig : 20000 < a.size ∨ 20000 < b.size ∨ 20000 < c.size
  · have hcase : (20000 : Int) < (a.size : Int) ∨ (decide ((20000 : Int) < (a.size : Int)) = false ∧ (20000 : Int) < (b.size : Int)) ∨ (decide ((20000 : Int) < (a.size : Int)) = false ∧ decide ((20000 : Int) < (b.size : Int)) = false ∧ (20000 : Int) < (c.size : Int)) := by
      simp only [decide_eq_false_iff_not]; omega
    clear hbig
    rcases hcase with g1 | ⟨g1, g2⟩ | ⟨g1, g2, g3⟩
    all_goals
      go_enter Try.func3, Try.ntmps3
      go_wp2_with fail
      refine (works_any _).mono ?_
      rintro e' w1 ⟨rfl, hb1⟩
      go_wp2_with fail
      refine (works_any _).mono ?_
      rintro e' w2 ⟨rfl, hb2⟩
      go_wp2_with fail
      go_ret
      exact ⟨rfl, by repeat (first | assumption | exact ext_refl _ | refine ext_drew ?_ | refine ext_alloc ?_ _ | refine ext_trans ?_ (by assumption))⟩
  have g1 : decide ((20000 : Int) < (a.size : Int)) = false := by rw [decide_eq_false_iff_not]; omega
  have g2 : decide ((20000 : Int) < (b.size : Int)) = false := by rw [decide_eq_false_iff_not]; omega
  have g3 : decide ((20000 : Int) < (c.size : Int)) = false := by rw [decide_eq_false_iff_not]; omega
  have HB := hid hbig
  clear hbig
  go_enter Try.func3, Try.ntmps3
  go_wp2_with fail
  refine (works_any _).mono ?_
  rintro e' w1 ⟨rfl, hb1⟩
  go_upto_region 3 with (fail)
  go_cut [7] (fun s7 wx => ∃ n : Nat, s7 = .int .i64 n ∧ Hid (n ≤ a.size ∧ n ≤ b.size ∧ n ≤ c.size) ∧ Below w.heap.size w wx)
  case first =>
    go_wp2_with fail
    all_goals go_meet
    all_goals first
      | exact ⟨a.size, rfl, hid (by omega), hb1⟩
      | exact ⟨b.size, rfl, hid (by omega), hb1⟩
      | exact ⟨c.size, rfl, hid (by omega), hb1⟩
  case rest =>
    obtain ⟨n, rfl, HN, hb1⟩ := hcut
    have hn : n ≤ 20000 := by have := HN.out; have := HB.out; omega
    have hmk := fun W => run_mkbytes W n (by omega)
    have hn1 : (n : Int) ≤ 20000 := by omega
    have HNN := hid hn
    clear hn
    go_wp2_with fail
    have hwc := hb1.size
    have hA := ext_alloc hb1 (.cells (rowB (List.replicate n 0)) 5)
    have HAL := hid (show (byt a).take n = (byt a).take n from rfl)
    go_loopw [9] (fun i wr => ∃ k : Nat, k ≤ n ∧ i = .int .i64 k ∧ Hid (Blk wr wc.heap.size (rowB (xorL (xorL ((byt a).take k) ((byt b).take k)) ((byt c).take k) ++ List.replicate (n - k) 0)) 5) ∧ Below w.heap.size w wr) (fun i _ => n - (intOf i).toNat)
    case atStart => exact ⟨0, Nat.zero_le _, rfl, hid (by simpa [xorL] using Blk.new wc (rowB (List.replicate n 0)) 5), hA⟩
    case round =>
      obtain ⟨k, hk, rfl, HBK, hb⟩ := hrel
      clear hA hb1
      by_cases hlt : k < n
      · have hka : k < a.size := by have := HN.out; omega
        have hkb : k < b.size := by have := HN.out; omega
        have hkc : k < c.size := by have := HN.out; omega
        have hla : ((xorL (xorL ((byt a).take k) ((byt b).take k)) ((byt c).take k))).length = k := xorL_len3 _ _ _ k (by simp [byt_len]; omega) (by simp [byt_len]; omega) (by simp [byt_len]; omega)
        have c0 := HBK.out.cell k (v := .int .u8 0) (by
          unfold rowB
          obtain ⟨m, hm⟩ : ∃ m, n - k = m + 1 := ⟨n - k - 1, by omega⟩
          rw [hm, List.replicate_succ]
          simp [hla])
        have f0 := HBK.out.free k
        have l0 := HBK.out.lt
        have hx3 := xor3 a[k] b[k] c[k]
        obtain ⟨x, hx⟩ : ∃ x : Nat, x = a[k].toNat ^^^ b[k].toNat ^^^ c[k].toNat := ⟨_, rfl⟩
        rw [← hx] at hx3
        have HX := hid hx
        have HLA := hid hla
        clear hla hx
        go_wp2_with fail
        go_region
        go_wp2_with fail
        go_roundw
        case rel =>
          refine ⟨k + 1, by omega, by go_num, hid ?_, ext_drew (ext_set hb (by dsimp only; exact hwc) _)⟩
          have h := (HBK.out.set k (.int .u8 (x : Int))).drew
          rw [rowB_set] at h
          obtain ⟨m, hm⟩ : ∃ m, n - k = m + 1 := ⟨n - k - 1, by omega⟩
          rw [hm, List.replicate_succ, List.set_append_right _ _ (by rw [HLA.out]; exact Nat.le_refl _), HLA.out, Nat.sub_self, List.set_cons_zero] at h
          rw [xorL_snoc (byt a) (byt b) (byt c) k (by rw [byt_len]; exact hka) (by rw [byt_len]; exact hkb) (by rw [byt_len]; exact hkc), byt_at a k hka, byt_at b k hkb, byt_at c k hkc, ← HX.out, show n - (k + 1) = m by omega, List.append_assoc]
          exact h
        case measure => simp [intOf]; omega
      · obtain rfl : k = n := by omega
        obtain ⟨D, hD⟩ : ∃ D, D = xorL (xorL ((byt a).take k) ((byt b).take k)) ((byt c).take k) := ⟨_, rfl⟩
        have hDl : D.length = k := by
          have := HN.out
          rw [hD]; exact xorL_len3 _ _ _ k (by simp [byt_len]; omega) (by simp [byt_len]; omega) (by simp [byt_len]; omega)
        have hDb : ∀ c ∈ D, c < 256 := by
          rw [hD]
          exact xorL_lt _ _ (xorL_lt _ _ (fun z hz => byt_lt a z (List.mem_of_mem_take hz)) (fun z hz => byt_lt b z (List.mem_of_mem_take hz))) (fun z hz => byt_lt c z (List.mem_of_mem_take hz))
        have HBD : Hid (Blk wr wc.heap.size (rowB D) 5) := hid (by
          have h := HBK.out
          rw [← hD] at h
          simpa using h)
        have HSUM : Hid (sumN D = sumN ((byt a).take k) ^^^ sumN ((byt b).take k) ^^^ sumN ((byt c).take k)) := hid (by
          have := HN.out
          rw [hD]
          exact sum_three _ _ _ (by simp [byt_len]; omega) (by simp [byt_len]; omega) (fun z hz => byt_lt a z (List.mem_of_mem_take hz)) (fun z hz => byt_lt b z (List.mem_of_mem_take hz)) (fun z hz => byt_lt c z (List.mem_of_mem_take hz)))
        have hk1 := run_conv_bytes wr.drew wc.heap.size 0 k D hDb (fun j hj => by rw [Nat.zero_add]; exact (HBD.out.cell j (rowB_at D j hj)))
        rw [hDl] at hk1
        have HDD := hid (And.intro hDl hDb)
        have hka : (k : Int) ≤ (a.size : Int) := by have := HN.out; omega
        have hkb : (k : Int) ≤ (b.size : Int) := by have := HN.out; omega
        have hkc : (k : Int) ≤ (c.size : Int) := by have := HN.out; omega
        have hk0 : (0 : Int) ≤ (k : Int) := by omega
        clear hD hDl hDb hlt hk HBK
        go_wp2_with fail
        go_region_law (first
          | (go_simp; go_at_call 19; refine (sum_any _ _ (by first | (rw [bstr_size, HDD.out.1]; omega) | (rw [ByteArray.size_extract]; omega))).mono ?_; rintro e' w5 ⟨rfl, hb5⟩))
        go_wp2_with fail
        go_ret
        refine ⟨ret_bool ?_, by repeat (first | assumption | exact ext_refl _ | refine ext_drew ?_ | refine ext_alloc ?_ _ | refine ext_trans ?_ (by assumption))⟩
        rw [byt_bstr HDD.out.2, byt_head, byt_head, byt_head, HSUM.out, u32_xor_nat _ _ (sumN_lt _) (sumN_lt _), u32_xor_nat _ _ (xor_lt 32 (sumN_lt _) (sumN_lt _)) (sumN_lt _), beq_self_eq_true]
end Go.Proofs.Ytonckpblbdopmaa
