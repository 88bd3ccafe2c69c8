/-
  Joined texts: DeB DeV3 DeV4.
-/
import Derived.Test.YtaklfjjkeebheaaProg
import Derived.Test.YtaklfjjkeebheaaKit
import Derived.Test.YtaklfjjkeebheaaCrc
import Derived.Deep.QuietTactic
import Derived.BigQuiet
import Derived.RegionTactic
import Derived.Deep.CutBlock
import Derived.Test.YtaklfjjkeebheaaPbV
import Derived.Laws.BytesString
import Derived.Laws.IdiomStrings
import Derived.Lib.SlBytesConst
import Derived.WalkMore
import Derived.Deep.LoopGhost
/-
  Texts and bytes (out of FrW1 and FrW2: what names no function).
-/
namespace Go.Proofs.Ytaklfjjkeebheaa
set_option linter.unusedVariables false
set_option linter.unusedSimpArgs false
open Go Go.RowKit
def byt (s : ByteArray) : List Nat := s.data.toList.map UInt8.toNat
theorem byt_lt (s : ByteArray) : ∀ c ∈ byt s, c < 256 := by
  intro c hc
  obtain ⟨u, -, rfl⟩ := List.mem_map.1 hc
  exact u.toNat_lt
theorem byt_len (s : ByteArray) : (byt s).length = s.size := by simp [byt]

theorem byt_take (s : ByteArray) (k : Nat) (h : k < s.size) : (byt s).take (k + 1) = (byt s).take k ++ [s[k].toNat] := by
  unfold byt
  rw [← List.map_take, List.take_succ_eq_append_getElem (by simpa using h), List.map_append, List.map_take]
  rfl
/-- A text came back, whose bytes are these. -/
def StrOf (w : World) (l : List Nat) (e : Ending) (w' : World) : Prop := ∃ s : ByteArray, e = .returned (.string s) ∧ byt s = l ∧ Below w.heap.size w w'
theorem byt_inj {s t : ByteArray} (h : byt s = byt t) : s = t := by
  cases s with | mk a => cases t with | mk b =>
  congr 1
  have hi : Function.Injective UInt8.toNat := fun x y h => UInt8.toNat_inj.1 h
  have := (List.map_inj_right (fun x y h => hi h)).1 h
  exact Array.toList_inj.1 this
theorem byt_mk (l : List UInt8) : byt ⟨l.toArray⟩ = l.map UInt8.toNat := by simp [byt]

/-- The text of some bytes. -/
def bstr (l : List Nat) : ByteArray := ⟨(l.map UInt8.ofNat).toArray⟩
theorem byt_bstr {l : List Nat} (h : ∀ c ∈ l, c < 256) : byt (bstr l) = l := by
  unfold bstr
  rw [byt_mk, List.map_map]
  conv => rhs; rw [← List.map_id l]
  refine List.map_congr_left fun c hc => ?_
  simp [UInt8.toNat_ofNat', Nat.mod_eq_of_lt (h c hc)]
theorem bstr_byt (s : ByteArray) : bstr (byt s) = s := byt_inj (byt_bstr (byt_lt s))
theorem run_conv_bytes (w : World) (b o cap : Nat) (l : List Nat) (hl : ∀ c ∈ l, c < 256) (hc : ∀ j (h : j < l.length), w.cell? ⟨b, o + j, none⟩ = some (.int .u8 (l[j] : Int))) :
    (convert 81 9 (.slice (some ⟨b, o, none⟩) l.length cap)).run Try.prog w = .ok (.string (bstr l)) w := by
  have h := run_convert_bytes_back (P := Try.prog) w 81 9 5 ⟨b, o, none⟩ cap (l.map UInt8.ofNat) Try.underlying81 Try.underlying5 Try.underlying9 (fun j hj => by
    have hj' : j < l.length := by simpa using hj
    have e1 : (⟨b, o, none⟩ : Addr).add j = ⟨b, o + j, none⟩ := by
      unfold Addr.add; split
      · rename_i h; subst h; simp
      · rfl
    rw [e1, hc j hj']
    have := hl l[j] (List.getElem_mem hj')
    simp [UInt8.toNat_ofNat', Nat.mod_eq_of_lt this])
  simpa [bstr] using h
end Go.Proofs.Ytaklfjjkeebheaa
/-
  Walks: numbers as bytes: varint.Put.
-/
namespace Go.Proofs.Ytaklfjjkeebheaa
set_option linter.unusedVariables false
open Go Go.RowKit

theorem or128 (x : Nat) (h : x < 256) : bits .or .u8 (x : Int) 128 = ((x % 128 + 128 : Nat) : Int) := by
  have key : ∀ y : Fin 256, bits .or .u8 ((y.1 : Nat) : Int) 128 = ((y.1 % 128 + 128 : Nat) : Int) := by decide +kernel
  exact key ⟨x, h⟩
theorem andn128 (x : Nat) (h : x < 256) : bits .andNot .u8 (x : Int) 128 = ((x % 128 : Nat) : Int) := by
  have key : ∀ y : Fin 256, bits .andNot .u8 ((y.1 : Nat) : Int) 128 = ((y.1 % 128 : Nat) : Int) := by decide +kernel
  exact key ⟨x, h⟩
theorem and128 (x : Nat) (h : x < 256) : bits .and .u8 (x : Int) 128 = if x < 128 then 0 else 128 := by
  have key : ∀ y : Fin 256, bits .and .u8 ((y.1 : Nat) : Int) 128 = if y.1 < 128 then 0 else 128 := by decide +kernel
  exact key ⟨x, h⟩

/-- Ten cells: some bytes, and zeros behind. -/
def row10 (pre : List Nat) : Array Value := ((pre ++ List.replicate (10 - pre.length) 0).map fun (c : Nat) => Value.int .u8 (c : Int)).toArray
theorem row10_set (pre : List Nat) (c : Nat) (h : pre.length < 10) : (row10 pre).setIfInBounds pre.length (.int .u8 (c : Int)) = row10 (pre ++ [c]) := by
  unfold row10
  rw [List.setIfInBounds_toArray]
  congr 1
  have e : 10 - pre.length = (10 - (pre ++ [c]).length) + 1 := by simp; omega
  rw [e, List.replicate_succ, List.map_append, List.set_append_right _ _ (by simp)]
  simp
theorem row10_last (pre : List Nat) (c d : Nat) (h : pre.length < 10) : (row10 (pre ++ [c])).setIfInBounds pre.length (.int .u8 (d : Int)) = row10 (pre ++ [d]) := by
  rw [← row10_set pre c h, Array.setIfInBounds_setIfInBounds, row10_set pre d h]
theorem row10_at (pre : List Nat) (j : Nat) (h : j < pre.length) : (row10 pre)[j]? = some (.int .u8 (pre[j] : Int)) := by
  unfold row10
  simp [List.getElem?_append_left, h]
theorem row10_new : row10 [] = #[.int .u8 0, .int .u8 0, .int .u8 0, .int .u8 0, .int .u8 0, .int .u8 0, .int .u8 0, .int .u8 0, .int .u8 0, .int .u8 0] := rfl
theorem row10_zero (pre : List Nat) (h : pre.length < 10) : (row10 pre)[pre.length]? = some (.int .u8 0) := by
  unfold row10
  obtain ⟨m, hm⟩ : ∃ m, 10 - pre.length = m + 1 := ⟨9 - pre.length, by omega⟩
  rw [hm, List.replicate_succ]
  simp

set_option maxRecDepth 100000 in
set_option maxHeartbeats 4000000 in
theorem vput_any (n0 : Nat) (w : World) (hn : n0 < 18446744073709551616) : Calls Try.prog 23 #[.int .u64 n0] w (StrOf w (putN n0)) := by
  have HN := hid hn
  clear hn
  go_enter Try.func23, Try.ntmps23
  go_wp2_with fail
  go_step3
  go_wp2_with fail
  go_step3
  go_wp2_with fail
  have hB0 : Blk (w.alloc (.cells #[.int .u8 0, .int .u8 0, .int .u8 0, .int .u8 0, .int .u8 0, .int .u8 0, .int .u8 0, .int .u8 0, .int .u8 0, .int .u8 0] 96)) w.heap.size (row10 []) 96 := by rw [row10_new]; exact Blk.new _ _ _
  have hA := ext_alloc (ext_refl w) (.cells #[.int .u8 0, .int .u8 0, .int .u8 0, .int .u8 0, .int .u8 0, .int .u8 0, .int .u8 0, .int .u8 0, .int .u8 0, .int .u8 0] 96)
  go_loopw [0, 4] (fun n i wr => ∃ (pre : List Nat) (cur : Nat), pre.length ≤ 9 ∧ i = .int .i64 pre.length ∧ n = .int .u64 cur ∧ Hid (putN n0 = pre ++ putF (10 - pre.length) cur ∧ cur < 2 ^ (64 - 7 * pre.length) ∧ ∀ c ∈ pre, c < 256) ∧
    Hid (Blk wr w.heap.size (row10 pre) 96) ∧ Below w.heap.size w wr) (fun _ i _ => 10 - (intOf i).toNat)
  case atStart => exact ⟨[], n0, by simp, rfl, rfl, hid ⟨rfl, by simpa using HN.out, by simp⟩, hid hB0, hA⟩
  case round =>
    obtain ⟨pre, cur, hk, rfl, rfl, HP, HB, hb⟩ := hrel
    clear hB0 hA
    have hcur : cur < 18446744073709551616 := Nat.lt_of_lt_of_le HP.out.2.1 (by
      have := Nat.pow_le_pow_right (n := 2) (by decide) (show 64 - 7 * pre.length ≤ 64 by omega)
      simpa using this)
    have c0 := HB.out.cell pre.length (v := .int .u8 0) (row10_zero pre (by omega))
    have f0 := HB.out.free pre.length
    have hb0 := HB.out.lt
    have hpos : (0 : Int) ≤ (pre.length : Int) := by omega
    have hk' : (pre.length : Int) ≤ 9 := by omega
    have hk2 : (pre.length : Int) + 1 ≤ 10 := by omega
    have hk3 : (0 : Int) ≤ (pre.length : Int) + 1 := by omega
    obtain ⟨v, hv⟩ : ∃ v : Nat, v = cur % 128 + 128 := ⟨_, rfl⟩
    have hor : bits .or .u8 ((cur : Int) % 256) 128 = (v : Int) := by
      have := or128 (cur % 256) (by omega)
      rw [show ((cur % 256 : Nat) : Int) = (cur : Int) % 256 by omega] at this
      rw [this, hv]
      congr 2
      omega
    have HC := hid hcur
    have HV := hid hv
    have hv1 : (v : Int) ≤ 255 := by omega
    by_cases hz : cur < 128
    · have han : bits .andNot .u8 (v : Int) 128 = (cur : Int) := by
        rw [andn128 v (by omega), hv]
        congr 1
        omega
      have ht : ((cur : Int) / 128 == 0) = true := by rw [beq_iff_eq]; omega
      have hc1 : (cur : Int) ≤ 127 := by omega
      have hor : bits .or .u8 (cur : Int) 128 = (v : Int) := by
        rw [or128 cur (by omega), hv]
      have HZ := hid hz
      clear hz hv hcur
      go_wp2_with fail
      have hfin : Blk ((wr.setCell ⟨w.heap.size, pre.length, none⟩ (.int .u8 v)).setCell ⟨w.heap.size, pre.length, none⟩ (.int .u8 cur)) w.heap.size (row10 (pre ++ [cur])) 96 := by
        have h := (HB.out.set pre.length (.int .u8 v)).set pre.length (.int .u8 cur)
        rw [row10_set pre v (by omega), row10_last pre v cur (by omega)] at h
        exact h
      have hput : putN n0 = pre ++ [cur] := by
        obtain ⟨m, hm⟩ : ∃ m, 10 - pre.length = m + 1 := ⟨9 - pre.length, by omega⟩
        rw [HP.out.1, hm]
        simp [putF, HZ.out]
      have hby : ∀ c ∈ pre ++ [cur], c < 256 := by
        intro c hc
        rcases List.mem_append.1 hc with h | h
        · exact HP.out.2.2 c h
        · simp at h; have := HZ.out; omega
      have hcv := run_conv_bytes _ w.heap.size 0 10 (pre ++ [cur]) hby (fun j hj => by rw [Nat.zero_add]; exact hfin.cell j (row10_at (pre ++ [cur]) j hj))
      rw [show (pre ++ [cur]).length = pre.length + 1 by simp] at hcv
      rw [hcv]
      have HPUT := hid hput
      clear hcv hfin hput
      go_wp2_with fail
      try rw [Exit.noGoto_ret]
      go_ret
      exact ⟨_, rfl, by rw [byt_bstr hby, HPUT.out], ext_set (ext_set hb (Nat.le_refl _) _) (Nat.le_refl _) _⟩
    · have ht : ((cur : Int) / 128 == 0) = false := by rw [beq_eq_false_iff_ne]; omega
      have HZ := hid hz
      clear hz hv
      have hc1 : (cur : Int) ≤ 18446744073709551615 := by omega
      clear hcur
      go_wp2_with fail
      go_roundw
      case rel =>
        refine ⟨pre ++ [v], cur / 128, ?_, by simp, by go_num, ?_, hid ?_, ext_set hb (Nat.le_refl _) _⟩
        · simp
          rcases Nat.lt_or_ge pre.length 9 with h | h
          · omega
          · have h9 : pre.length = 9 := by omega
            have h2 := HP.out.2.1
            rw [h9] at h2
            have := HZ.out
            omega
        · obtain ⟨m, hm⟩ : ∃ m, 10 - pre.length = m + 1 := ⟨9 - pre.length, by omega⟩
          have hz := HZ.out
          refine hid ⟨?_, ?_, ?_⟩
          · rw [HP.out.1, hm, show 10 - (pre ++ [v]).length = m by simp; omega]
            simp only [putF, hz, if_false, HV.out, List.append_assoc, List.singleton_append]
          · have h2 := HP.out.2.1
            have h8 : pre.length < 9 := by
              rcases Nat.lt_or_ge pre.length 9 with h | h
              · exact h
              · have h9 : pre.length = 9 := by omega
                rw [h9] at h2
                omega
            have e : 64 - 7 * pre.length = (64 - 7 * (pre ++ [v]).length) + 7 := by simp; omega
            rw [e, Nat.pow_add] at h2
            exact Nat.div_lt_of_lt_mul (by rw [Nat.mul_comm]; exact h2)
          · intro c hc
            rcases List.mem_append.1 hc with h | h
            · exact HP.out.2.2 c h
            · simp at h; have := HV.out; omega
        · have h := HB.out.set pre.length (.int .u8 v)
          rwa [row10_set pre v (by omega)] at h
      case measure => simp [intOf]; omega
end Go.Proofs.Ytaklfjjkeebheaa
/-
  Walks: numbers out of bytes: varint.Get, and the document's.
-/
namespace Go.Proofs.Ytaklfjjkeebheaa
set_option linter.unusedVariables false
open Go Go.RowKit

theorem byt_get (s : ByteArray) (i : Nat) (h : i < s.size) : (byt s).drop i = s[i].toNat :: (byt s).drop (i + 1) := by
  have hl : i < (byt s).length := by rw [byt_len]; exact h
  rw [List.drop_eq_getElem_cons hl]
  congr 1
  simp [byt]
  rfl
theorem byt_end (s : ByteArray) : (byt s).drop s.size = [] := List.drop_eq_nil_of_le (by rw [byt_len]; exact Nat.le_refl _)
theorem pow128 (k : Nat) : 128 ^ k = 2 ^ (7 * k) := by rw [Nat.pow_mul]
theorem or_shift (acc k c : Nat) (hc : c < 256) (ha : acc < 128 ^ k) (hk : k ≤ 9) (h9 : k = 9 → c ≤ 1) :
    bits .or .u64 (acc : Int) (IntKind.u64.wrap (IntKind.u64.wrap (bits .andNot .u8 (c : Int) 128) * 2 ^ (7 * k))) = ((acc + c % 128 * 128 ^ k : Nat) : Int) := by
  rw [andn128 c hc, pow128] at *
  have hp : 2 ^ (7 * k) ≤ 2 ^ 63 := Nat.pow_le_pow_right (by decide) (by omega)
  have hd : c % 128 * 2 ^ (7 * k) < 2 ^ 64 := by
    by_cases h : k = 9
    · subst h
      have := h9 rfl
      have : c % 128 ≤ 1 := by omega
      calc c % 128 * 2 ^ (7 * 9) ≤ 1 * 2 ^ (7 * 9) := Nat.mul_le_mul_right _ this
        _ < 2 ^ 64 := by decide
    · have h2 : 2 ^ (7 * k) ≤ 2 ^ 56 := Nat.pow_le_pow_right (by decide) (by omega)
      calc c % 128 * 2 ^ (7 * k) ≤ 127 * 2 ^ 56 := Nat.mul_le_mul (by omega) h2
        _ < 2 ^ 64 := by decide
  have p63 : (2 : Nat) ^ 63 = 9223372036854775808 := by decide
  have p64 : (2 : Nat) ^ 64 = 18446744073709551616 := by decide
  rw [p63] at hp
  rw [p64] at hd
  have e1 : IntKind.u64.wrap ((c % 128 : Nat) : Int) = ((c % 128 : Nat) : Int) := by rw [IntKind.wrap_u64]; omega
  have e2 : ((c % 128 : Nat) : Int) * 2 ^ (7 * k) = ((c % 128 * 2 ^ (7 * k) : Nat) : Int) := by simp
  rw [e1, e2]
  generalize hq : c % 128 * 2 ^ (7 * k) = q at *
  have e3 : IntKind.u64.wrap (q : Int) = (q : Int) := by rw [IntKind.wrap_u64]; omega
  rw [e3, u64_or_nat _ _ (by omega) hd]
  congr 1
  rw [← hq, Nat.or_comm, Nat.mul_comm (c % 128), ← Nat.two_pow_add_eq_or_of_lt ha, Nat.add_comm]
theorem get_step {l bs : List Nat} {m k acc c : Nat} (h : getN l = getF (m + 1) k acc (128 ^ k) (c :: bs)) (h9 : k = 9 → c ≤ 1) (hc : 128 ≤ c) : getN l = getF m (k + 1) (acc + c % 128 * 128 ^ k) (128 ^ (k + 1)) bs ∨ 256 ≤ c := by
  rcases Nat.lt_or_ge c 256 with h2 | h2
  · left
    have e1 : ¬ (k = 9 ∧ 1 < c) := fun ⟨h3, h4⟩ => by have := h9 h3; omega
    have e2 : ¬ c < 128 := by omega
    rw [h]
    simp only [getF, e1, e2, if_false]
    rw [show c - 128 = c % 128 by omega, Nat.pow_succ]
  · exact Or.inr h2

set_option maxRecDepth 100000 in
set_option maxHeartbeats 4000000 in
theorem get_any (s : ByteArray) (w : World) (hs : s.size ≤ 9223372036854775807) : Calls Try.prog 27 #[.string s] w fun e' w' =>
    e' = .returned (.tuple #[.int .u64 (getN (byt s)).1, .int .i64 (getN (byt s)).2.1, .int .i64 (getN (byt s)).2.2]) ∧ w = w' := by
  go_enter Try.func27, Try.ntmps27
  go_wp2_with fail
  go_loop [2, 6] (fun n i => ∃ (k acc : Nat), k ≤ 10 ∧ k ≤ s.size ∧ i = .int .i64 k ∧ n = .int .u64 acc ∧ Hid (getN (byt s) = getF (10 - k) k acc (128 ^ k) ((byt s).drop k) ∧ acc < 128 ^ k)) (fun _ i => 10 - (intOf i).toNat)
  case atStart => exact ⟨0, 0, by omega, by omega, rfl, rfl, hid ⟨by simp [getN], by simp⟩⟩
  case round =>
    obtain ⟨k, acc, hk, hks, rfl, rfl, HG⟩ := hrel
    by_cases hlt : k < 10
    · obtain ⟨m, hm⟩ : ∃ m, 10 - k = m + 1 := ⟨9 - k, by omega⟩
      by_cases hend : k = s.size
      · have ht : ((k : Int) == (s.size : Int)) = true := by rw [beq_iff_eq]; omega
        have hG : getN (byt s) = (0, 0, 8) := by
          rw [HG.out.1, hm, hend, byt_end]; rfl
        have HG := hid hG
        clear hend hG hm
        go_wp2_with fail
        go_ret3
        rw [HG.out]
        exact ⟨rfl, rfl⟩
      · have hks2 : k < s.size := by omega
        have ht : ((k : Int) == (s.size : Int)) = false := by rw [beq_eq_false_iff_ne]; omega
        have hG := HG.out.1
        rw [byt_get s k hks2, hm] at hG
        have HA := hid HG.out.2
        have HM := hid hm
        have hc := s[k].toNat_lt
        have hpos : (0 : Int) ≤ (k : Int) := by omega
        have hk9 : (k : Int) ≤ 9 := by omega
        have h7 : (7 * (k : Int)) ≤ 63 := by omega
        have h70 : (0 : Int) ≤ 7 * (k : Int) := by omega
        have HGG := hid hG
        clear HG hm hend hG
        by_cases herr : k = 9 ∧ 1 < s[k].toNat
        · have g1 : ((k : Int) == 9) = true := by rw [beq_iff_eq]; omega
          have g2 : (1 : Int) < (s[k].toNat : Int) := by omega
          have HE : Hid (getN (byt s) = (0, 0, 20)) := hid (by rw [HGG.out]; simp only [getF]; rw [if_pos herr])
          clear herr
          go_wp2_with fail
          go_ret3
          rw [HE.out]
          exact ⟨rfl, rfl⟩
        · have h9 : k = 9 → s[k].toNat ≤ 1 := fun h => by omega
          have hOR := or_shift acc k s[k].toNat hc HA.out (by omega) h9
          obtain ⟨a2, ha2⟩ : ∃ a2 : Nat, a2 = acc + s[k].toNat % 128 * 128 ^ k := ⟨_, rfl⟩
          rw [← ha2] at hOR
          have HA2 := hid ha2
          have H9 := hid h9
          clear ha2 h9
          have hp : ((k : Int) == 9) = false ∨ (((k : Int) == 9) = true ∧ ¬ ((1 : Int) < (s[k].toNat : Int))) := by
            by_cases h : k = 9
            · exact Or.inr ⟨by rw [beq_iff_eq]; omega, by have := H9.out h; omega⟩
            · exact Or.inl (by rw [beq_eq_false_iff_ne]; omega)
          have HERR := hid herr
          clear herr
          rcases hp with hp | ⟨hp, hp2⟩
          all_goals
            by_cases hge : 128 ≤ s[k].toNat
            · have hand : bits .and .u8 (s[k].toNat : Int) 128 = 128 := by rw [and128 _ hc, if_neg (by omega)]
              have HST := hid ((get_step HGG.out H9.out hge).resolve_right (by omega))
              have HGE := hid hge
              clear hge
              go_wp2_with fail
              go_round
              case rel => exact ⟨k + 1, a2, by omega, by omega, by go_num, rfl, hid ⟨by rw [HST.out, show 10 - (k + 1) = m by have := HM.out; omega, HA2.out], by
                have h1 := HA.out
                rw [HA2.out, Nat.pow_succ]
                have h2 : s[k].toNat % 128 * 128 ^ k ≤ 127 * 128 ^ k := Nat.mul_le_mul_right _ (by omega)
                omega⟩⟩
              case measure => simp [intOf]; omega
            · have hand : bits .and .u8 (s[k].toNat : Int) 128 = 0 := by rw [and128 _ hc, if_pos (by omega)]
              have hlt7 : s[k].toNat < 128 := by omega
              have HLT := hid hlt7
              by_cases hw : 0 < k ∧ s[k].toNat = 0
              · have g3 : (0 : Int) < (k : Int) := by omega
                have g4 : ((s[k].toNat : Int) == 0) = true := by rw [beq_iff_eq]; omega
                have HE : Hid (getN (byt s) = (0, 0, 11)) := hid (by rw [HGG.out]; simp only [getF]; rw [if_neg HERR.out, if_pos hlt7, if_pos ⟨hw.2, hw.1⟩])
                clear hw hge hlt7
                go_wp2_with fail
                go_ret3
                rw [HE.out]
                exact ⟨rfl, rfl⟩
              · have HE : Hid (getN (byt s) = (a2, k + 1, 0)) := hid (by
                  rw [HGG.out]; simp only [getF]
                  rw [if_neg HERR.out, if_pos hlt7, if_neg (fun h => hw ⟨h.2, h.1⟩), HA2.out, Nat.mod_eq_of_lt hlt7])
                have hpq : (¬ ((0 : Int) < (k : Int)) ∧ decide (0 < k) = false) ∨ ((0 : Int) < (k : Int) ∧ ((s[k].toNat : Int) == 0) = false) := by
                  by_cases h : 0 < k
                  · exact Or.inr ⟨by omega, by rw [beq_eq_false_iff_ne]; omega⟩
                  · exact Or.inl ⟨by omega, by simp; omega⟩
                clear hw hge hlt7
                rcases hpq with ⟨hq, hq2⟩ | ⟨hq, hq2⟩
                all_goals
                  go_wp2_with fail
                  go_ret3
                  rw [HE.out]
                  exact ⟨by simp, rfl⟩
    · obtain rfl : k = 10 := by omega
      have HE : Hid (getN (byt s) = (0, 0, 20)) := hid (by rw [HG.out.1]; simp only [Nat.sub_self, getF])
      go_wp2_with fail
      go_ret3
      rw [HE.out]
      exact ⟨rfl, rfl⟩

end Go.Proofs.Ytaklfjjkeebheaa
