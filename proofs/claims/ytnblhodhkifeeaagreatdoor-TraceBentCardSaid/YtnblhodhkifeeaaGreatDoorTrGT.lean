/-
  Joined texts: ShR ShS ShT.
-/
import Derived.Test.YtnblhodhkifeeaaGreatDoorTrGS
import Derived.Test.YtnblhodhkifeeaaGreatDoorTrGK
import Derived.Test.YtnblhodhkifeeaaGreatDoorTrGR
/-
  Walks: slices.Repeat at stripes.
-/
namespace Go.Proofs.YtnblhodhkifeeaaGreatDoor
set_option linter.unusedVariables false
open Go Go.RowKit
set_option maxRecDepth 100000 in
set_option maxHeartbeats 4000000 in
theorem mul_small (n : Nat) (w : World) (hn : n ≤ 32) : Calls Tryz.prog 130 #[.int .u64 1, .int .u64 (n : Int)] w fun e w' => e = .returned (.tuple #[.int .u64 0, .int .u64 (n : Int)]) ∧ w = w' := by
  have h1 : (n : Int) ≤ 32 := by omega
  have h0 : (0 : Int) ≤ (n : Int) := by omega
  have ha : bits .and .u64 (n : Int) 4294967295 = (n : Int) := by
    rw [show (4294967295 : Int) = ((4294967295 : Nat) : Int) from rfl, u64_and_nat n 4294967295 (by omega) (by omega)]
    congr 1
    rw [show (4294967295 : Nat) = 2 ^ 32 - 1 from rfl, Nat.and_two_pow_sub_one_eq_mod]
    omega
  have hb : bits .and .u64 1 4294967295 = 1 := by decide
  have hz : bits .and .u64 0 4294967295 = 0 := by decide
  have hd : (n : Int) / 4294967296 = 0 := by omega
  have hw1 : IntKind.u64.wrap (n : Int) = (n : Int) := by rw [IntKind.wrap_u64]; omega
  clear hn
  go_enter Tryz.func130, Tryz.ntmps130
  go_wp2
  go_ret2
  exact ⟨rfl, rfl⟩
theorem cell_allocA {w : World} {p : Addr} {v : Value} {x : Obj} (h : w.cell? p = some v) : (w.alloc x).cell? p = some v := by
  rw [(ext_alloc (ext_refl w) x).cell (p := p)]
  · exact h
  · obtain ⟨b, o, s⟩ := p
    unfold World.cell? at h
    rcases Nat.lt_or_ge b w.heap.size with h' | h'
    · exact h'
    · simp [Array.getElem?_eq_none h'] at h
theorem made_flat (z : Array Value) (m n : Nat) (hm : z.size = m) (hm0 : 0 < m) : madeCells z (n * m) = flatA (List.replicate n z.toList) := by
  subst hm
  apply Array.ext
  · simp [madeCells, flatA]
  · intro i h1 h2
    have hi : i < n * z.size := by simpa [madeCells] using h1
    have hq : i / z.size < n := Nat.div_lt_of_lt_mul (by rw [Nat.mul_comm]; exact hi)
    have hr : i % z.size < z.size := Nat.mod_lt _ hm0
    have e : i / z.size * z.size + i % z.size = i := by rw [Nat.mul_comm]; exact Nat.div_add_mod i z.size
    have h3 := flatA_get (m := z.size) (rows := List.replicate n z.toList) (by intro r hr; rw [List.eq_of_mem_replicate hr]; simp) (i / z.size) (i % z.size) (by simpa using hq) hr
    rw [e, Array.getElem?_eq_getElem h2] at h3
    simp only [List.getElem_replicate, Array.getElem?_toList] at h3
    rw [Array.getElem?_eq_getElem hr] at h3
    rw [Option.some.inj h3]
    simp only [madeCells, Array.getElem_map, Array.getElem_range]
    exact getElem!_pos z (i % z.size) hr
theorem infoSt : (Tryz.prog.info? 127).map (fun i => (i.zero, i.size, i.bytes)) = some (some (.agg #[.int .i64 0, .int .i64 0]), 2, 16) := by kernel_rfl
theorem infoTh : (Tryz.prog.info? 135).map (fun i => (i.zero, i.size, i.bytes)) = some (some (.agg #[.int .i64 0, .int .i64 0, .int .i64 0, .int .i64 0, .int .i64 0, .int .i64 0, .int .u32 0, .int .u32 0, .int .u32 0, .int .u32 0, .int .i64 0, .int .i64 0, .bool false]), 13, 88) := by kernel_rfl
theorem run_mkst (W : World) (n : Nat) (hn : n ≤ 32) : (Instr.makeSlice 124 (.int .i64 (n : Int)) (.int .i64 (n : Int))).run Tryz.prog W = .ok (.slice (some ⟨W.heap.size, 0, none⟩) n n) (W.alloc (.cells (flatA (List.replicate n (stL (0, 0)))) 127)) := by
  obtain ⟨i0, hi, hz0, hz1, hz2⟩ := info_parts infoSt
  rw [run_make W 124 127 i0 _ Tryz.underlying124 hi hz0 .i64 .i64 n n (by omega) (by omega) (by rw [hz2]; omega) (by omega), hz1]
  simp only [Int.toNat_natCast]
  rw [made_flat _ 2 n rfl (by omega)]; rfl
theorem run_mkth (W : World) (n : Nat) (hn : n ≤ 6) : (Instr.makeSlice 123 (.int .i64 (n : Int)) (.int .i64 (n : Int))).run Tryz.prog W = .ok (.slice (some ⟨W.heap.size, 0, none⟩) n n) (W.alloc (.cells (flatA (List.replicate n (thL Th.zero))) 135)) := by
  obtain ⟨i0, hi, hz0, hz1, hz2⟩ := info_parts infoTh
  rw [run_make W 123 135 i0 _ Tryz.underlying123 hi hz0 .i64 .i64 n n (by omega) (by omega) (by rw [hz2]; omega) (by omega), hz1]
  simp only [Int.toNat_natCast]
  rw [made_flat _ 13 n rfl (by omega)]; rfl
theorem rep_add {α : Type} (a b : Nat) (x : α) : List.replicate (a + b) x = List.replicate a x ++ List.replicate b x := (List.replicate_append_replicate).symm
def stR (m n : Nat) : List (List Value) := List.replicate m (stL (-1, 0)) ++ List.replicate (n - m) (stL (0, 0))
theorem flat_len (k : Nat) (p : Int × Int) : (List.replicate k (stL p)).flatten.length = k * 2 := by
  induction k with
  | zero => rfl
  | succ k ih => rw [List.replicate_succ, List.flatten_cons, List.length_append, ih]; simp [stL]; omega
theorem stR_len (m n : Nat) (h : m ≤ n) : (stR m n).flatten.length = n * 2 := by
  unfold stR; rw [List.flatten_append, List.length_append, flat_len, flat_len]; omega
theorem splice_mid (A B C D : List Value) (o : Nat) (ho : A.length = o) (hd : B.length = D.length) : splice (A ++ (B ++ C)) o D = A ++ (D ++ C) := by
  subst ho
  unfold splice
  rw [List.take_left' rfl, ← List.append_assoc A B C, List.drop_left' (by rw [List.length_append, hd])]
theorem stR_splice (m k n : Nat) (h : m + k ≤ n) : splice (stR m n).flatten (m * 2) (List.replicate k (stL (-1, 0))).flatten = (stR (m + k) n).flatten := by
  have e1 : n - m = k + (n - (m + k)) := by omega
  have e2 : (stR m n).flatten = (List.replicate m (stL (-1, 0))).flatten ++ ((List.replicate k (stL (0, 0))).flatten ++ (List.replicate (n - (m + k)) (stL (0, 0))).flatten) := by
    unfold stR; rw [e1, rep_add]; simp only [List.flatten_append]
  have e3 : (stR (m + k) n).flatten = (List.replicate m (stL (-1, 0))).flatten ++ ((List.replicate k (stL (-1, 0))).flatten ++ (List.replicate (n - (m + k)) (stL (0, 0))).flatten) := by
    unfold stR; rw [rep_add]; simp only [List.flatten_append, List.append_assoc]
  rw [e2, e3]
  exact splice_mid _ _ _ _ _ (flat_len _ _) (by rw [flat_len, flat_len])
theorem stR_one (k : Nat) : ∀ v ∈ (List.replicate k (stL (-1, 0))).flatten, v.oneCell' = true := by
  intro v hv
  obtain ⟨r, hr, hv⟩ := List.mem_flatten.1 hv
  rw [List.eq_of_mem_replicate hr] at hv
  simp only [stL, List.mem_cons, List.not_mem_nil, or_false] at hv
  rcases hv with rfl | rfl <;> rfl
theorem stR_cell {w : World} {g m n : Nat} (hb : Blk w g (flatA (stR m n)) 127) (k : Nat) (hk : k ≤ m) : ∀ j v, (List.replicate k (stL (-1, 0))).flatten[j]? = some v → w.cell? ((⟨g, 0, none⟩ : Addr).add j) = some v := by
  intro j v hv
  have hj : j < (List.replicate k (stL (-1, 0))).flatten.length := (List.getElem?_eq_some_iff.1 hv).1
  have ha : (⟨g, 0, none⟩ : Addr).add j = ⟨g, j, none⟩ := by unfold Addr.add; split <;> simp_all
  rw [ha]
  refine hb.cell j ?_
  unfold flatA stR
  have e : m = k + (m - k) := by omega
  rw [e, rep_add]
  simp only [List.flatten_append, List.getElem?_toArray, List.append_assoc]
  rw [List.getElem?_append_left hj]
  exact hv
set_option maxRecDepth 100000 in
set_option maxHeartbeats 1000000 in
theorem repeat_any (x n : Nat) (w : World) (h0 : w.cell? ⟨x, 0, none⟩ = some (.int .i64 (-1))) (h1 : w.cell? ⟨x, 1, none⟩ = some (.int .i64 0)) (hn : 1 ≤ n) (hn2 : n ≤ 32) :
    Calls Tryz.prog 73 #[.slice (some ⟨x, 0, none⟩) 1 1, .int .i64 (n : Int)] w fun e w' => e = .returned (.slice (some ⟨w.heap.size, 0, none⟩) n n) ∧ Below w.heap.size w w' ∧ Blk w' w.heap.size (flatA (List.replicate n (stL (-1, 0)))) 127 := by
  have g1 : (1 : Int) ≤ (n : Int) := by omega
  have g2 : (n : Int) ≤ 32 := by omega
  have HM := hid (fun w => mul_small n w hn2)
  have hmk := fun W => run_mkst W n hn2
  have k1 : decide ((9223372036854775807 : Int) < (n : Int)) = false := by rw [decide_eq_false_iff_not]; omega
  have k2 : decide ((n : Int) < 0) = false := by rw [decide_eq_false_iff_not]; omega
  have g0 : 1 ≤ n := hn
  clear hn hn2
  go_enter Tryz.func73, Tryz.ntmps73
  go_wp2_with fail
  refine (HM.out _).mono ?_
  rintro e' w1 ⟨rfl, rfl⟩
  have hsz : (Tryz.prog.info? 127).map (·.size) = some 2 := by kernel_rfl
  have HSZ := hid hsz
  have HBK := hid (Blk.new w (flatA (List.replicate n (stL (0, 0)))) 127)
  have HBB := hid (ext_alloc (ext_refl w) (.cells (flatA (List.replicate n (stL (0, 0)))) 127))
  have hcs : ∀ j v, [Value.int .i64 (-1), Value.int .i64 0][j]? = some v → w.cell? ((⟨x, 0, none⟩ : Addr).add j) = some v := by
    intro j v hv
    match j, hv with
    | 0, hv => simp at hv; subst hv; exact h0
    | 1, hv => simp at hv; subst hv; exact h1
  have HCS := hid (fun j v hv => cell_allocA (x := .cells (flatA (List.replicate n (stL (0, 0)))) 127) (hcs j v hv))
  have HN := hid (show Nat.min 1 n = 1 from Nat.min_eq_left g0)
  have HLN := hid (show 0 + [Value.int .i64 (-1), Value.int .i64 0].length ≤ (List.replicate n (stL (0, 0))).flatten.length by rw [flat_len]; simp; omega)
  clear hsz hcs
  go_wp2_with (refine wpList_copy_rows 2 rfl (.tmp 31) (.tmp 32) 124 124 rfl 127 Tryz.underlying124 HSZ.out n n 1 1 w.heap.size 0 ⟨x, 0, none⟩ rfl rfl (List.replicate n (stL (0, 0))).flatten 127 HBK.out [.int .i64 (-1), .int .i64 0] 1 HN.out rfl HCS.out HLN.out (by simp [Value.oneCell']) w.heap.size w HBB.out (Nat.le_refl _) ?_; intro w1 HB1 hb1)
  have HB2 : Hid (Blk w1 w.heap.size (flatA (stR 1 n)) 127) := by
    have := stR_splice 0 1 n (by omega)
    have e0 : (stR 0 n) = List.replicate n (stL (0, 0)) := by simp [stR]
    rw [e0] at this
    refine hid ?_
    have h1 := HB1.out
    rw [show [Value.int .i64 (-1), Value.int .i64 0] = (List.replicate 1 (stL (-1, 0))).flatten by rfl] at h1
    simpa [flatA, ← this] using h1
  have HB0 := hid hb1
  have N0 := hid g0
  have HMS := HSZ
  clear HB1 hb1 g0 hmk HBK HBB HCS HN HLN
  go_loopw [8] (fun i wr => ∃ m : Nat, 1 ≤ m ∧ m ≤ n ∧ i = .int .i64 m ∧ Hid (Blk wr w.heap.size (flatA (stR m n)) 127) ∧ Below w.heap.size w wr) (fun i _ => n - (intOf i).toNat)
  case atStart => exact ⟨1, Nat.le_refl _, N0.out, rfl, HB2, HB0.out⟩
  case round =>
    obtain ⟨m, hm1, hmn, rfl, HBM, hb⟩ := hrel
    by_cases hlt : m < n
    · have j1 : decide ((m : Int) < (n : Int)) = true := by rw [decide_eq_true_iff]; omega
      have j2 : (0 : Int) ≤ (m : Int) := by omega
      have j3 : (m : Int) ≤ (n : Int) := by omega
      have j4 : (n = m) = False := by rw [eq_iff_iff, iff_false]; omega
      have hmin : Nat.min m (n - m) = m ∨ Nat.min m (n - m) = n - m := by
        rcases Nat.le_total m (n - m) with h | h
        · exact .inl (Nat.min_eq_left h)
        · exact .inr (Nat.min_eq_right h)
      obtain ⟨k, hk, hk1, hk2⟩ : ∃ k, Nat.min m (n - m) = k ∧ 1 ≤ k ∧ m + k ≤ n := by
        rcases hmin with h | h
        · have h2 : m ≤ n - m := by have := Nat.min_le_right m (n - m); rw [show min m (n - m) = m from h] at this; exact this
          exact ⟨m, h, hm1, by omega⟩
        · exact ⟨n - m, h, by omega, by omega⟩
      have j5 : IntKind.i64.wrap ((m : Int) + (k : Int)) = (m : Int) + (k : Int) := IntWalk.i64_in _ (by omega)
      have hkm : k ≤ m := by
        have := Nat.min_le_left m (n - m); rw [show min m (n - m) = k from hk] at this; exact this
      have HK := hid hk
      have HN2 := hid (And.intro hk1 hk2)
      have HFIT := hid (show m * 2 + (List.replicate k (stL (-1, 0))).flatten.length ≤ (stR m n).flatten.length by rw [flat_len, stR_len m n hmn]; omega)
      have HCELL := hid (stR_cell HBM.out k hkm)
      have HB0 := hid hb
      have hcp : ∃ W5, ((Builtin.copy_ #[124, 124] 3 #[.slice (some ⟨w.heap.size, m * 2, none⟩) (n - m) (n - m), .slice (some ⟨w.heap.size, 0, none⟩) m n]).run Tryz.prog wr.drew = .ok (goInt k) W5) ∧ Hid (Blk W5 w.heap.size (flatA (stR (m + k) n)) 127) ∧ Below w.heap.size w W5 := by
        refine ⟨_, run_copy_rows 2 wr.drew 124 124 3 127 w.heap.size (m * 2) (n - m) (n - m) ⟨w.heap.size, 0, none⟩ m n (stR m n).flatten.toArray 127 (List.replicate k (stL (-1, 0))).flatten k Tryz.underlying124 HSZ.out HBM.out hk (flat_len _ _) HCELL.out (by simpa using HFIT.out) (stR_one k), hid ?_, below_setRow (ext_drew hb) (Nat.le_refl _) _⟩
        have e := stR_splice m k n hk2
        unfold flatA
        rw [← e]
        exact (show _ = _ by simpa [splice] using setRow_heap wr.drew w.heap.size _ (splice (stR m n).flatten (m * 2) (List.replicate k (stL (-1, 0))).flatten).toArray 127 _ HBM.out)
      obtain ⟨W5, hcp, HB5, hb5⟩ := hcp
      have HB6 := hid hb5
      unfold goInt at hcp
      clear hb hk hk1 hk2 hkm hmin hb5
      go_wp2_with fail
      go_region_law fail
      all_goals go_simp
      all_goals go_wp2_with fail
      all_goals go_roundw
      case rel => exact ⟨m + k, by omega, HN2.out.2, by simp, HB5, HB6.out⟩
      all_goals (have := HN2.out; simp [intOf]; omega)
    · obtain rfl : m = n := by omega
      have j1 : decide ((m : Int) < (m : Int)) = false := by rw [decide_eq_false_iff_not]; omega
      have HBL : Hid (Blk wr w.heap.size (flatA (List.replicate m (stL (-1, 0)))) 127) := by
        have := HBM.out; simpa [stR] using hid this
      have HB0 := hid hb
      clear hb HBM
      go_wp2_with fail
      go_ret
      exact ⟨rfl, HB0.out, HBL.out⟩
end Go.Proofs.YtnblhodhkifeeaaGreatDoor
/-
  Walks: shape.New (what it refuses).
-/
namespace Go.Proofs.YtnblhodhkifeeaaGreatDoor
set_option linter.unusedVariables false
open Go Go.RowKit
set_option maxRecDepth 100000 in
set_option maxHeartbeats 4000000 in
set_option maxRecDepth 100000 in
theorem new_bad (T V S : Int) (w : World) (hb : ¬ (0 ≤ T ∧ T ≤ 6 ∧ 1 ≤ V ∧ V ≤ 32 ∧ 1 ≤ S ∧ S ≤ V)) :
    Calls Tryz.prog 37 #[.int .i64 T, .int .i64 V, .int .i64 S] w fun e w' => e = .returned (.tuple #[.pointer none, .int .i64 1]) ∧ w = w' := by
  by_cases h1 : T < 0 <;> by_cases h2 : 6 < T <;> by_cases h3 : V < 1 <;> by_cases h4 : 32 < V <;> by_cases h5 : S < 1 <;> by_cases h6 : V < S <;> first
    | (exfalso; omega)
    | (clear hb
       go_enter Tryz.func37, Tryz.ntmps37
       go_wp2
       go_ret2
       exact ⟨rfl, rfl⟩)
end Go.Proofs.YtnblhodhkifeeaaGreatDoor
/-
  Walks: shape.New where it answers.
-/
namespace Go.Proofs.YtnblhodhkifeeaaGreatDoor
set_option linter.unusedVariables false
set_option linter.unusedSimpArgs false
open Go Go.RowKit
def NewV (T V S B : Nat) (i : Nat) (v : Value) (w : World) : Prop :=
  match i with
  | 0 => v = .int .i64 (V : Int)
  | 1 => v = .int .i64 (T : Int)
  | 2 => ∃ b, B ≤ b ∧ v = .slice (some ⟨b, 0, none⟩) T T ∧ Blk w b (flatA (List.replicate T (thL Th.zero))) 135
  | 3 => v = .agg #[.int .i64 (-1), .int .i64 0]
  | 4 => ∃ b, v = .slice (some ⟨b, 0, none⟩) 1 1 ∧ w.cell? ⟨b, 0, none⟩ = some (.int .i64 (-1)) ∧ w.cell? ⟨b, 1, none⟩ = some (.int .i64 0)
  | 5 => v = .int .i64 (S : Int)
  | 6 => ∃ b, B ≤ b ∧ v = .slice (some ⟨b, 0, none⟩) S S ∧ Blk w b (flatA (List.replicate S (stL (-1, 0)))) 127
  | 7 => ∃ tb sb, B ≤ tb ∧ B ≤ sb ∧ v = .agg #[.int .i64 (V : Int), .int .i64 0, .int .i64 0, .slice (some ⟨tb, 0, none⟩) T T, .slice (some ⟨sb, 0, none⟩) S S] ∧ Blk w tb (flatA (List.replicate T (thL Th.zero))) 135 ∧ Blk w sb (flatA (List.replicate S (stL (-1, 0)))) 127
  | 8 => ∃ c tb sb, B ≤ c ∧ B ≤ tb ∧ B ≤ sb ∧ v = .pointer (some ⟨c, 0, none⟩) ∧ CkAt w c tb sb (newS T V S) 0
  | 9 => ∃ c tb sb, B ≤ c ∧ B ≤ tb ∧ B ≤ sb ∧ v = .pointer (some ⟨c, 0, none⟩) ∧ CkAt w c tb sb (newS T V S) 0
  | _ => v = .int .i64 0
theorem NewV.below {T V S B i : Nat} {v : Value} {w w' : World} (h : NewV T V S B i v w) (hb : Below w.heap.size w w') : NewV T V S B i v w' := by
  unfold NewV at h ⊢
  split at h
  · exact h
  · exact h
  · obtain ⟨b, h1, h2, h3⟩ := h; exact ⟨b, h1, h2, h3.below hb⟩
  · exact h
  · obtain ⟨b, h1, h2, h3⟩ := h; exact ⟨b, h1, later hb h2, later hb h3⟩
  · exact h
  · obtain ⟨b, h1, h2, h3⟩ := h; exact ⟨b, h1, h2, h3.below hb⟩
  · obtain ⟨b, b2, h0, h1, h2, h3, h4⟩ := h; exact ⟨b, b2, h0, h1, h2, h3.below hb, h4.below hb⟩
  · obtain ⟨b, b2, b3, h0, h1, h2, h3, h4⟩ := h; exact ⟨b, b2, b3, h0, h1, h2, h3, CkR.below h4 hb⟩
  · obtain ⟨b, b2, b3, h0, h1, h2, h3, h4⟩ := h; exact ⟨b, b2, b3, h0, h1, h2, h3, CkR.below h4 hb⟩
  · exact h
theorem ckAt_new {w : World} {tb sb T V S : Nat} (h1 : Blk w tb (flatA (List.replicate T (thL Th.zero))) 135) (h2 : Blk w sb (flatA (List.replicate S (stL (-1, 0)))) 127) :
    CkAt (w.alloc (.cells #[.int .i64 (V : Int), .int .i64 0, .int .i64 0, .slice (some ⟨tb, 0, none⟩) T T, .slice (some ⟨sb, 0, none⟩) S S] 129)) w.heap.size tb sb (newS T V S) 0 := by
  have l1 := h1.lt
  have l2 := h2.lt
  have hne : tb ≠ sb := by
    rintro rfl
    unfold Blk at h1 h2
    rw [h1] at h2
    simp at h2
  refine ⟨?_, ?_, ?_, ⟨by omega, by omega, hne⟩, ?_, ?_, by simp, by simp⟩
  · have := Blk.new w #[.int .i64 (V : Int), .int .i64 0, .int .i64 0, .slice (some ⟨tb, 0, none⟩) T T, .slice (some ⟨sb, 0, none⟩) S S] 129
    simpa [newS] using this
  · simpa [newS] using h1.alloc _
  · simpa [newS] using h2.alloc _
  · intro r hr
    obtain ⟨t, -, rfl⟩ := List.mem_map.1 hr
    rfl
  · intro r hr
    obtain ⟨t, -, rfl⟩ := List.mem_map.1 hr
    rfl
set_option maxRecDepth 100000 in
set_option maxHeartbeats 2000000 in
theorem new_ok (T V S : Nat) (w : World) (h1 : T ≤ 6) (h2 : 1 ≤ V) (h3 : V ≤ 32) (h4 : 1 ≤ S) (h5 : S ≤ V) :
    Calls Tryz.prog 37 #[.int .i64 (T : Int), .int .i64 (V : Int), .int .i64 (S : Int)] w fun e w' => ∃ c tb sb, w.heap.size ≤ c ∧ w.heap.size ≤ tb ∧ w.heap.size ≤ sb ∧ e = .returned (.tuple #[.pointer (some ⟨c, 0, none⟩), .int .i64 0]) ∧ CkAt w' c tb sb (newS T V S) 0 ∧ Below w.heap.size w w' := by
  have g1 : decide ((T : Int) < 0) = false := by rw [decide_eq_false_iff_not]; omega
  have g2 : decide ((6 : Int) < (T : Int)) = false := by rw [decide_eq_false_iff_not]; omega
  have g3 : decide ((V : Int) < 1) = false := by rw [decide_eq_false_iff_not]; omega
  have g4 : decide ((32 : Int) < (V : Int)) = false := by rw [decide_eq_false_iff_not]; omega
  have g5 : decide ((S : Int) < 1) = false := by rw [decide_eq_false_iff_not]; omega
  have g6 : decide ((V : Int) < (S : Int)) = false := by rw [decide_eq_false_iff_not]; omega
  have g7 : decide (V < S) = false := by rw [decide_eq_false_iff_not]; omega
  have HMK := hid (fun W => run_mkth W T h1)
  have HREP := hid (fun x W c0 c1 => repeat_any x S W c0 c1 h4 (by omega))
  clear h1 h2 h3 h4 h5
  go_enter Tryz.func37, Tryz.ntmps37
  go_wp2_with fail
  apply wp_region_vposts' (NewV T V S w.heap.size) (fun w' => Below w.heap.size w w') (fun _ w1 w2 => Below w1.heap.size w1 w2)
  focus (intro vals; simp [putAll, dstOf, Act.put, List.getD]; rfl)
  case hm => kernel_rfl
  case hd => kernel_rfl
  case hb => kernel_rfl
  case hdep => kernel_rfl
  case hsel => kernel_rfl
  case hng => kernel_rfl
  case hgv => repeat' (first | exact trivial | (refine And.intro ?_ ?_))
  case hsz => kernel_rfl
  case hstab => intro i j v w1 w2 _ hv hb; exact hv.below hb
  case h0 => exact ext_drew (ext_refl _)
  case hstep =>
    refine ⟨?_, ?_, ?_, ?_, ?_, ?_, ?_, ?_, ?_, ?_, ?_, trivial⟩
    · intro vals w' hG hV K Qp hK
      go_simp
      exact hK (.int .i64 (V : Int)) w' rfl hG (ext_refl _)
    · intro vals w' hG hV K Qp hK
      go_simp
      exact hK (.int .i64 (T : Int)) w' rfl hG (ext_refl _)
    · intro vals w' hG hV K Qp hK
      have v1 : vals 1 = .int .i64 (T : Int) := hV 1 rfl
      simp only [v1] at hK
      go_simp
      rw [HMK.out]
      go_simp
      exact hK (.slice (some ⟨w'.heap.size, 0, none⟩) T T) _ ⟨_, hG.size, rfl, Blk.new _ _ _⟩ (ext_alloc hG _) (ext_alloc (ext_refl _) _)
    · intro vals w' hG hV K Qp hK
      go_simp
      exact hK (.agg #[.int .i64 (-1), .int .i64 0]) w' rfl hG (ext_refl _)
    · intro vals w' hG hV K Qp hK
      have v3 : vals 3 = .agg #[.int .i64 (-1), .int .i64 0] := hV 3 rfl
      simp only [v3] at hK
      go_simp
      go_wp2_with fail
      have hb0 := Blk.new w' #[.int .i64 (-1), .int .i64 0] 127
      exact hK (.slice (some ⟨w'.heap.size, 0, none⟩) 1 1) _ ⟨_, rfl, hb0.cell 0 rfl, hb0.cell 1 rfl⟩ (ext_alloc hG _) (ext_alloc (ext_refl _) _)
    · intro vals w' hG hV K Qp hK
      go_simp
      exact hK (.int .i64 (S : Int)) w' rfl hG (ext_refl _)
    · intro vals w' hG hV K Qp hK
      obtain ⟨b, v4, c0, c1⟩ : NewV T V S w.heap.size 4 (vals 4) w' := hV 4 rfl
      have v5 : vals 5 = .int .i64 (S : Int) := hV 5 rfl
      simp only [v4, v5] at hK
      go_simp
      refine (HREP.out b w' c0 c1).mono ?_
      rintro e' w1 ⟨rfl, hb, hblk⟩
      exact hK (.slice (some ⟨w'.heap.size, 0, none⟩) S S) _ ⟨_, hG.size, rfl, hblk⟩ (ext_trans hG hb) hb
    · intro vals w' hG hV K Qp hK
      have v0 : vals 0 = .int .i64 (V : Int) := hV 0 rfl
      obtain ⟨tb, t1, v2, t2⟩ : NewV T V S w.heap.size 2 (vals 2) w' := hV 2 rfl
      obtain ⟨sb, s1, v6, s2⟩ : NewV T V S w.heap.size 6 (vals 6) w' := hV 6 rfl
      simp only [v0, v2, v6] at hK
      go_simp
      go_simp
      exact hK _ w' ⟨tb, sb, t1, s1, rfl, t2, s2⟩ hG (ext_refl _)
    · intro vals w' hG hV K Qp hK
      obtain ⟨tb, sb, t1, s1, v7, t2, s2⟩ : NewV T V S w.heap.size 7 (vals 7) w' := hV 7 rfl
      simp only [v7] at hK
      go_simp
      go_wp2_with fail
      exact hK (.pointer (some ⟨w'.heap.size, 0, none⟩)) _ ⟨_, tb, sb, hG.size, t1, s1, rfl, ckAt_new t2 s2⟩ (ext_alloc hG _) (ext_alloc (ext_refl _) _)
    · intro vals w' hG hV K Qp hK
      obtain ⟨c, tb, sb, c1, t1, s1, v8, h8⟩ : NewV T V S w.heap.size 8 (vals 8) w' := hV 8 rfl
      simp only [v8] at hK
      go_simp
      exact hK (.pointer (some ⟨c, 0, none⟩)) w' ⟨c, tb, sb, c1, t1, s1, rfl, h8⟩ hG (ext_refl _)
    · intro vals w' hG hV K Qp hK
      go_simp
      exact hK (.int .i64 0) w' rfl hG (ext_refl _)
  case hdone =>
    intro vals w' hG hV
    obtain ⟨c, tb, sb, c1, t1, s1, v9, h9⟩ : NewV T V S w.heap.size 9 (vals 9) w' := hV 9 (by decide)
    have v10 : vals 10 = .int .i64 0 := hV 10 (by decide)
    try simp only [v9, v10]
    go_wp2_with fail
    go_ret2
    exact ⟨c, tb, sb, c1, t1, s1, rfl, h9, hG⟩
end Go.Proofs.YtnblhodhkifeeaaGreatDoor
