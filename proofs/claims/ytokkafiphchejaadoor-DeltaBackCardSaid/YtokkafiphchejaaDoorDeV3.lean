/-
  Walks: numbers as bytes: varint.Put.
-/
import Derived.Test.YtokkafiphchejaaDoorDeB
import Derived.WalkMore
import Derived.Deep.LoopGhost
namespace Go.Proofs.YtokkafiphchejaaDoor
set_option linter.unusedVariables false
open Go Go.RowKit

theorem or128 (x : Nat) (h : x < 256) : bits .or .u8 (x : Int) 128 = ((x % 128 + 128 : Nat) : Int) := by
  have key : ∀ y : Fin 256, bits .or .u8 ((y.1 : Nat) : Int) 128 = ((y.1 % 128 + 128 : Nat) : Int) := by decide +kernel
  exact key ⟨x, h⟩
theorem andn128 (x : Nat) (h : x < 256) : bits .andNot .u8 (x : Int) 128 = ((x % 128 : Nat) : Int) := by
  have key : ∀ y : Fin 256, bits .andNot .u8 ((y.1 : Nat) : Int) 128 = ((y.1 % 128 : Nat) : Int) := by decide +kernel
  exact key ⟨x, h⟩
theorem and128 (x : Nat) (h : x < 256) : bits .and .u8 (x : Int) 128 = if x < 128 then 0 else 128 := by
  have key : ∀ y : Fin 256, bits .and .u8 ((y.1 : Nat) : Int) 128 = if y.1 < 128 then 0 else 128 := by decide +kernel
  exact key ⟨x, h⟩

/-- Ten cells: some bytes, and zeros behind. -/
def row10 (pre : List Nat) : Array Value := ((pre ++ List.replicate (10 - pre.length) 0).map fun (c : Nat) => Value.int .u8 (c : Int)).toArray
theorem row10_set (pre : List Nat) (c : Nat) (h : pre.length < 10) : (row10 pre).setIfInBounds pre.length (.int .u8 (c : Int)) = row10 (pre ++ [c]) := by
  unfold row10
  rw [List.setIfInBounds_toArray]
  congr 1
  have e : 10 - pre.length = (10 - (pre ++ [c]).length) + 1 := by simp; omega
  rw [e, List.replicate_succ, List.map_append, List.set_append_right _ _ (by simp)]
  simp
theorem row10_last (pre : List Nat) (c d : Nat) (h : pre.length < 10) : (row10 (pre ++ [c])).setIfInBounds pre.length (.int .u8 (d : Int)) = row10 (pre ++ [d]) := by
  rw [← row10_set pre c h, Array.setIfInBounds_setIfInBounds, row10_set pre d h]
theorem row10_at (pre : List Nat) (j : Nat) (h : j < pre.length) : (row10 pre)[j]? = some (.int .u8 (pre[j] : Int)) := by
  unfold row10
  simp [List.getElem?_append_left, h]
theorem row10_new : row10 [] = #[.int .u8 0, .int .u8 0, .int .u8 0, .int .u8 0, .int .u8 0, .int .u8 0, .int .u8 0, .int .u8 0, .int .u8 0, .int .u8 0] := rfl
theorem row10_zero (pre : List Nat) (h : pre.length < 10) : (row10 pre)[pre.length]? = some (.int .u8 0) := by
  unfold row10
  obtain ⟨m, hm⟩ : ∃ m, 10 - pre.length = m + 1 := ⟨9 - pre.length, by omega⟩
  rw [hm, List.replicate_succ]
  simp

set_option maxRecDepth 100000 in
set_option maxHeartbeats 4000000 in
theorem vput_any (n0 : Nat) (w : World) (hn : n0 < 18446744073709551616) : Calls Tryd.prog 32 #[.int .u64 n0] w (StrOf w (putN n0)) := by
  have HN := hid hn
  clear hn
  go_enter Tryd.func32, Tryd.ntmps32
  go_wp2_with fail
  go_step3
  go_wp2_with fail
  go_step3
  go_wp2_with fail
  have hB0 : Blk (w.alloc (.cells #[.int .u8 0, .int .u8 0, .int .u8 0, .int .u8 0, .int .u8 0, .int .u8 0, .int .u8 0, .int .u8 0, .int .u8 0, .int .u8 0] 106)) w.heap.size (row10 []) 106 := by rw [row10_new]; exact Blk.new _ _ _
  have hA := ext_alloc (ext_refl w) (.cells #[.int .u8 0, .int .u8 0, .int .u8 0, .int .u8 0, .int .u8 0, .int .u8 0, .int .u8 0, .int .u8 0, .int .u8 0, .int .u8 0] 106)
  go_loopw [0, 4] (fun n i wr => ∃ (pre : List Nat) (cur : Nat), pre.length ≤ 9 ∧ i = .int .i64 pre.length ∧ n = .int .u64 cur ∧ Hid (putN n0 = pre ++ putF (10 - pre.length) cur ∧ cur < 2 ^ (64 - 7 * pre.length) ∧ ∀ c ∈ pre, c < 256) ∧
    Hid (Blk wr w.heap.size (row10 pre) 106) ∧ Below w.heap.size w wr) (fun _ i _ => 10 - (intOf i).toNat)
  case atStart => exact ⟨[], n0, by simp, rfl, rfl, hid ⟨rfl, by simpa using HN.out, by simp⟩, hid hB0, hA⟩
  case round =>
    obtain ⟨pre, cur, hk, rfl, rfl, HP, HB, hb⟩ := hrel
    clear hB0 hA
    have hcur : cur < 18446744073709551616 := Nat.lt_of_lt_of_le HP.out.2.1 (by
      have := Nat.pow_le_pow_right (n := 2) (by decide) (show 64 - 7 * pre.length ≤ 64 by omega)
      simpa using this)
    have c0 := HB.out.cell pre.length (v := .int .u8 0) (row10_zero pre (by omega))
    have f0 := HB.out.free pre.length
    have hb0 := HB.out.lt
    have hpos : (0 : Int) ≤ (pre.length : Int) := by omega
    have hk' : (pre.length : Int) ≤ 9 := by omega
    have hk2 : (pre.length : Int) + 1 ≤ 10 := by omega
    have hk3 : (0 : Int) ≤ (pre.length : Int) + 1 := by omega
    obtain ⟨v, hv⟩ : ∃ v : Nat, v = cur % 128 + 128 := ⟨_, rfl⟩
    have hor : bits .or .u8 ((cur : Int) % 256) 128 = (v : Int) := by
      have := or128 (cur % 256) (by omega)
      rw [show ((cur % 256 : Nat) : Int) = (cur : Int) % 256 by omega] at this
      rw [this, hv]
      congr 2
      omega
    have HC := hid hcur
    have HV := hid hv
    have hv1 : (v : Int) ≤ 255 := by omega
    by_cases hz : cur < 128
    · have han : bits .andNot .u8 (v : Int) 128 = (cur : Int) := by
        rw [andn128 v (by omega), hv]
        congr 1
        omega
      have ht : ((cur : Int) / 128 == 0) = true := by rw [beq_iff_eq]; omega
      have hc1 : (cur : Int) ≤ 127 := by omega
      have hor : bits .or .u8 (cur : Int) 128 = (v : Int) := by
        rw [or128 cur (by omega), hv]
      have HZ := hid hz
      clear hz hv hcur
      go_wp2_with fail
      have hfin : Blk ((wr.setCell ⟨w.heap.size, pre.length, none⟩ (.int .u8 v)).setCell ⟨w.heap.size, pre.length, none⟩ (.int .u8 cur)) w.heap.size (row10 (pre ++ [cur])) 106 := by
        have h := (HB.out.set pre.length (.int .u8 v)).set pre.length (.int .u8 cur)
        rw [row10_set pre v (by omega), row10_last pre v cur (by omega)] at h
        exact h
      have hput : putN n0 = pre ++ [cur] := by
        obtain ⟨m, hm⟩ : ∃ m, 10 - pre.length = m + 1 := ⟨9 - pre.length, by omega⟩
        rw [HP.out.1, hm]
        simp [putF, HZ.out]
      have hby : ∀ c ∈ pre ++ [cur], c < 256 := by
        intro c hc
        rcases List.mem_append.1 hc with h | h
        · exact HP.out.2.2 c h
        · simp at h; have := HZ.out; omega
      have hcv := run_conv_bytes _ w.heap.size 0 10 (pre ++ [cur]) hby (fun j hj => by rw [Nat.zero_add]; exact hfin.cell j (row10_at (pre ++ [cur]) j hj))
      rw [show (pre ++ [cur]).length = pre.length + 1 by simp] at hcv
      rw [hcv]
      have HPUT := hid hput
      clear hcv hfin hput
      go_wp2_with fail
      try rw [Exit.noGoto_ret]
      go_ret
      exact ⟨_, rfl, by rw [byt_bstr hby, HPUT.out], ext_set (ext_set hb (Nat.le_refl _) _) (Nat.le_refl _) _⟩
    · have ht : ((cur : Int) / 128 == 0) = false := by rw [beq_eq_false_iff_ne]; omega
      have HZ := hid hz
      clear hz hv
      have hc1 : (cur : Int) ≤ 18446744073709551615 := by omega
      clear hcur
      go_wp2_with fail
      go_roundw
      case rel =>
        refine ⟨pre ++ [v], cur / 128, ?_, by simp, by go_num, ?_, hid ?_, ext_set hb (Nat.le_refl _) _⟩
        · simp
          rcases Nat.lt_or_ge pre.length 9 with h | h
          · omega
          · have h9 : pre.length = 9 := by omega
            have h2 := HP.out.2.1
            rw [h9] at h2
            have := HZ.out
            omega
        · obtain ⟨m, hm⟩ : ∃ m, 10 - pre.length = m + 1 := ⟨9 - pre.length, by omega⟩
          have hz := HZ.out
          refine hid ⟨?_, ?_, ?_⟩
          · rw [HP.out.1, hm, show 10 - (pre ++ [v]).length = m by simp; omega]
            simp only [putF, hz, if_false, HV.out, List.append_assoc, List.singleton_append]
          · have h2 := HP.out.2.1
            have h8 : pre.length < 9 := by
              rcases Nat.lt_or_ge pre.length 9 with h | h
              · exact h
              · have h9 : pre.length = 9 := by omega
                rw [h9] at h2
                omega
            have e : 64 - 7 * pre.length = (64 - 7 * (pre ++ [v]).length) + 7 := by simp; omega
            rw [e, Nat.pow_add] at h2
            exact Nat.div_lt_of_lt_mul (by rw [Nat.mul_comm]; exact h2)
          · intro c hc
            rcases List.mem_append.1 hc with h | h
            · exact HP.out.2.2 c h
            · simp at h; have := HV.out; omega
        · have h := HB.out.set pre.length (.int .u8 v)
          rwa [row10_set pre v (by omega)] at h
      case measure => simp [intOf]; omega
end Go.Proofs.YtokkafiphchejaaDoor
