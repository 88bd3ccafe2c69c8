/-
  Walks: texts of which some bytes are turned (bent).
-/
import Derived.Test.YtonckpblbdopmaaFrL4
namespace Go.Proofs.Ytonckpblbdopmaa
set_option linter.unusedVariables false
open Go Go.RowKit

/-- The four bytes of a number, the least one first. -/
def four (x : Nat) : List Nat := [x % 256, x / 256 % 256, x / 65536 % 256, x / 16777216 % 256]
theorem four_lt (x : Nat) : ∀ c ∈ four x, c < 256 := by
  intro c hc
  simp only [four, List.mem_cons, List.not_mem_nil, or_false] at hc
  omega
/-- A block of cells of the call's own, with a mark behind its end. -/
def BlkM (w : World) (b : Nat) (cs : Array Value) (t : TypeId) (n : Nat) : Prop := w.heap[b]? = some (.cells cs t (n, n + 1))
theorem BlkM.cell {w : World} {b n : Nat} {cs : Array Value} {t : TypeId} (h : BlkM w b cs t n) (o : Nat) {v : Value} (hv : cs[o]? = some v) : w.cell? ⟨b, o, none⟩ = some v := by
  unfold BlkM at h
  simp [World.cell?, h, hv]
theorem BlkM.free {w : World} {b n : Nat} {cs : Array Value} {t : TypeId} (h : BlkM w b cs t n) (o : Nat) (ho : o < n) : w.frozen? ⟨b, o, none⟩ = false := by
  unfold BlkM at h
  simp [World.frozen?, h]; omega
theorem BlkM.lt {w : World} {b n : Nat} {cs : Array Value} {t : TypeId} (h : BlkM w b cs t n) : b < w.heap.size := by
  unfold BlkM at h
  rcases Nat.lt_or_ge b w.heap.size with h' | h'
  · exact h'
  · simp [Array.getElem?_eq_none h'] at h
theorem BlkM.new (w : World) (cs : Array Value) (t : TypeId) (n : Nat) : BlkM (w.alloc (.cells cs t (n, n + 1))) w.heap.size cs t n := by
  show (w.heap.push _)[w.heap.size]? = _
  simp
theorem BlkM.drew {w : World} {b n : Nat} {cs : Array Value} {t : TypeId} (h : BlkM w b cs t n) : BlkM w.drew b cs t n := h
theorem BlkM.set {w : World} {b n : Nat} {cs : Array Value} {t : TypeId} (h : BlkM w b cs t n) (o : Nat) (v : Value) : BlkM (w.setCell ⟨b, o, none⟩ v) b (cs.setIfInBounds o v) t n := by
  unfold BlkM at h ⊢
  simp [World.setCell, Array.getElem?_modify, h]

/-- Some bytes, and zeros behind. -/
def rowZ (l : List Nat) (c : Nat) : Array Value := rowB (l ++ List.replicate (c - l.length) 0)
theorem bytesRow_rowZ (s : ByteArray) (c : Nat) : bytesRow s c = rowZ (byt s) c := by
  unfold bytesRow rowZ rowB
  apply Array.ext'
  rw [Array.toList_append, Array.toList_map, Array.toList_replicate, List.map_append, List.map_replicate, byt_len]
  unfold byt
  rw [List.map_map]
  rfl
theorem run_bytes (W : World) (s : ByteArray) : ∃ c, s.size ≤ c ∧ (convert 9 23 (.string s)).run Try.prog W = .ok (.slice (some ⟨W.heap.size, 0, none⟩) s.size c) (W.drew.alloc (.cells (rowZ (byt s) c) 5 (c, c + 1))) := by
  have h := run_bytes_of_string (P := Try.prog) W 9 23 5 s Try.underlying9 Try.underlying23 Try.underlying5
  refine ⟨grownCap W s.size 0 5, ?_, ?_⟩
  · exact grownCap_ge W s.size 0 5
  · have hge := grownCap_ge W s.size 0 5
    have hsz : (rowZ (byt s) (grownCap W s.size 0 5)).size = grownCap W s.size 0 5 := by
      unfold rowZ rowB
      simp [byt_len]; omega
    rw [h, bytesRow_rowZ, hsz]

theorem bent_none (s : List Nat) (k : Nat) : bentL s k [] = s := by cases s <;> cases k <;> rfl

theorem rowZ_at (l : List Nat) (c j : Nat) (h : j < l.length) : (rowZ l c)[j]? = some (.int .u8 (l[j] : Int)) := by
  unfold rowZ
  rw [rowB_at _ _ (by simp; omega)]
  rw [List.getElem_append_left h]
theorem rowZ_bent (s : List Nat) (k m : Nat) (ds : List Nat) (c : Nat) (h : k + m < s.length) (hd : ds.length ≤ m) : (rowZ (bentL s k ds) c)[k + m]? = some (.int .u8 ((s.getD (k + m) 0 : Nat) : Int)) := by
  have hl : k + m < (bentL s k ds).length := by rw [bent_len]; exact h
  rw [rowZ_at _ _ _ hl]
  have h2 := bent_get s k ds (k + m) h
  rw [List.getElem?_eq_getElem hl, if_pos (by omega), Nat.add_sub_cancel_left, List.getD_eq_getElem?_getD (l := ds), List.getElem?_eq_none hd] at h2
  rw [Option.some.inj h2]
  simp
theorem getD_lt {l : List Nat} (h : ∀ c ∈ l, c < 256) (i : Nat) : l.getD i 0 < 256 := by
  rw [List.getD_eq_getElem?_getD]
  rcases Nat.lt_or_ge i l.length with hi | hi
  · rw [List.getElem?_eq_getElem hi]; exact h _ (List.getElem_mem hi)
  · rw [List.getElem?_eq_none hi]; decide

theorem rowZ_set (l : List Nat) (c j v : Nat) (h : j < l.length) : (rowZ l c).setIfInBounds j (.int .u8 (v : Int)) = rowZ (l.set j v) c := by
  unfold rowZ
  rw [rowB_set, List.set_append_left _ _ h, List.length_set]
theorem four_take (x m : Nat) (h : m < 4) : (four x).take (m + 1) = (four x).take m ++ [(four x).getD m 0] := by
  match m, h with
  | 0, _ => rfl
  | 1, _ => rfl
  | 2, _ => rfl
  | 3, _ => rfl
theorem xor_four (y x m : Nat) (hy : y < 256) (h : m < 4) : bits .xor .u8 (y : Int) ((x : Int) / 2 ^ (8 * m) % 256) = ((y ^^^ (four x).getD m 0 : Nat) : Int) := by
  have hd : (x : Int) / 2 ^ (8 * m) % 256 = (((four x).getD m 0 : Nat) : Int) := by
    match m, h with
    | 0, _ => show (x : Int) / 1 % 256 = ((x % 256 : Nat) : Int); omega
    | 1, _ => show (x : Int) / 256 % 256 = ((x / 256 % 256 : Nat) : Int); omega
    | 2, _ => show (x : Int) / 65536 % 256 = ((x / 65536 % 256 : Nat) : Int); omega
    | 3, _ => show (x : Int) / 16777216 % 256 = ((x / 16777216 % 256 : Nat) : Int); omega
  rw [hd, u8_xor_nat _ _ hy (getD_lt (four_lt x) m)]

set_option maxRecDepth 100000 in
set_option maxHeartbeats 4000000 in
theorem bent_any (s : ByteArray) (k x : Nat) (w : World) (hs : s.size ≤ 1000000) (hk : k ≤ 1000000) (hx : x < 4294967296) :
    Calls Try.prog 27 #[.string s, .int .i64 k, .int .u32 x] w fun e w' => e = .returned (.string (bstr (bentL (byt s) k (four x)))) ∧ Below w.heap.size w w' := by
  obtain ⟨c, hc, hcv⟩ := run_bytes w s
  have HC := hid hc
  have HS := hid hs
  have HK := hid hk
  have HX := hid hx
  clear hc hs hk hx
  go_enter Try.func27, Try.ntmps27
  go_wp2_with fail
  have hA := ext_alloc (ext_drew (ext_refl w)) (.cells (rowZ (byt s) c) 5 (c, c + 1))
  have hB0 : Hid (BlkM (w.drew.alloc (.cells (rowZ (byt s) c) 5 (c, c + 1))) w.heap.size (rowZ (byt s) c) 5 c) := hid (BlkM.new w.drew _ _ c)
  go_loopw [8] (fun i wr => ∃ m : Nat, m ≤ 4 ∧ i = .int .i64 m ∧ Hid (BlkM wr w.heap.size (rowZ (bentL (byt s) k ((four x).take m)) c) 5 c) ∧ Below w.heap.size w wr) (fun i _ => 4 - (intOf i).toNat)
  case atStart => exact ⟨0, by omega, rfl, by rw [List.take_zero, bent_none]; exact hB0, hA⟩
  case round =>
    obtain ⟨m, hm, rfl, HBK, hb⟩ := hrel
    clear hA
    have hs0 : (s.size : Int) ≤ 1000000 := by have := HS.out; omega
    have hk0 : (0 : Int) ≤ (k : Int) := by omega
    have hk1 : (k : Int) ≤ 1000000 := by have := HK.out; omega
    have hx0 : (0 : Int) ≤ (x : Int) := by omega
    have hx1 : (x : Int) ≤ 4294967295 := by have := HX.out; omega
    by_cases hlt : m < 4
    · by_cases hin : k + m < s.size
      · have hin2 : (k : Int) + (m : Int) < (s.size : Int) := by omega
        have hl0 := HBK.out.lt
        have c0 := HBK.out.cell (k + m) (v := .int .u8 (((byt s).getD (k + m) 0 : Nat) : Int)) (rowZ_bent _ _ _ _ _ (by rw [byt_len]; exact hin) (by simp [four]; omega))
        have hyb : (byt s).getD (k + m) 0 < 256 := getD_lt (byt_lt s) _
        have HSN := hid (bent_snoc (byt s) k ((four x).take m) ((four x).getD m 0))
        generalize hyy : (byt s).getD (k + m) 0 = y at *
        have HYB := hid hyb
        have HYY := hid hyy
        clear hyb hyy
        have f0 := HBK.out.free (k + m) (by have := HC.out; omega)
        have hw1 : IntKind.i64.wrap ((k : Int) + (m : Int)) = (k : Int) + (m : Int) := by rw [IntKind.wrap_i64]; omega
        have hw2 : IntKind.i64.wrap (8 * (m : Int)) = 8 * (m : Int) := by rw [IntKind.wrap_i64]; omega
        have hp : (0 : Int) ≤ 8 * (m : Int) := by omega
        have hp2 : 8 * (m : Int) ≤ 32 := by omega
        have hp3 : (0 : Int) ≤ (k : Int) + (m : Int) := by omega
        have HIN := hid hin
        clear hin
        go_wp2_with fail
        go_region
        go_wp2_with fail
        go_roundw
        case rel =>
          refine ⟨m + 1, by omega, by go_num, hid ?_, ext_drew (ext_set hb (Nat.le_refl _) _)⟩
          have h := (HBK.out.set (k + m) (.int .u8 (bits .xor .u8 (y : Int) ((x : Int) / 2 ^ (8 * m) % 256)))).drew
          rw [xor_four y x m HYB.out hlt, rowZ_set _ _ _ _ (by rw [bent_len, byt_len]; exact HIN.out)] at h
          have h2 := HSN.out
          try rw [HYY.out] at h2
          rw [show ((four x).take m).length = m by simp [four]; omega] at h2
          rw [four_take x m hlt, h2, xor_four y x m HYB.out hlt]
          rw [show (byt s).getD (k + m) 0 = y from HYY.out]
          exact h
        case measure => simp [intOf]; omega
      · have hin2 : ¬ ((k : Int) + (m : Int) < (s.size : Int)) := by omega
        have hfin : bentL (byt s) k ((four x).take m) = bentL (byt s) k (four x) := (bent_cut (byt s) k m (four x) (by rw [byt_len]; omega)).symm
        rw [hfin] at HBK
        have hcv2 := run_conv_bytes wr w.heap.size 0 c (bentL (byt s) k (four x)) (bent_byte _ _ _ (byt_lt s) (four_lt x)) (fun j hj => by rw [Nat.zero_add]; exact HBK.out.cell j (rowZ_at _ _ _ hj))
        rw [bent_len, byt_len] at hcv2
        clear hfin hin
        go_wp2_with fail
        go_ret
        exact ⟨rfl, hb⟩
    · obtain rfl : m = 4 := by omega
      rw [show (four x).take 4 = four x from rfl] at HBK
      have hcv2 := run_conv_bytes wr w.heap.size 0 c (bentL (byt s) k (four x)) (bent_byte _ _ _ (byt_lt s) (four_lt x)) (fun j hj => by rw [Nat.zero_add]; exact HBK.out.cell j (rowZ_at _ _ _ hj))
      rw [bent_len, byt_len] at hcv2
      go_wp2_with fail
      go_ret
      exact ⟨rfl, hb⟩
end Go.Proofs.Ytonckpblbdopmaa
