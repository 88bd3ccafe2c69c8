/-
  Walk: the law EventNames.
-/
import Derived.Test.YtlbpollckiidlaaDoorEvW6
import Derived.Test.YtlbpollckiidlaaDoorTurn
namespace Go.Proofs.YtlbpollckiidlaaDoor
set_option linter.unusedVariables false
set_option linter.unusedSimpArgs false
open Go Go.RowKit
theorem nameT_kind (n : Nat) (h1 : 1 ≤ n) (h2 : n ≤ 13) : kindOf (nameT (n : Int)) = some n := by
  have key : ∀ a : Fin 14, 1 ≤ a.val → kindOf (nameT (a.val : Int)) = some a.val := by decide
  exact key ⟨n, by omega⟩ h1
def names33 : List (Ev × Bool) := [(⟨1, 2, 5, 0, 1099511627776, 0, 0⟩, true), (⟨1, 3, 0, 0, 0, 0, 0⟩, false), (⟨1, 0, 6, 0, 0, 0, 0⟩, false), (⟨1, 0, 0, 0, 1099511627777, 0, 0⟩, false), (⟨1, -1, 0, 0, 0, 0, 0⟩, false), (⟨1, 0, 0, 1, 0, 0, 0⟩, false), (⟨2, 0, 0, 1, 4, 0, 0⟩, true), (⟨2, 0, 0, 2, 0, 0, 0⟩, false), (⟨2, 0, 0, 0, 0, 1, 0⟩, false), (⟨2, 0, 0, 0, -1, 0, 0⟩, false), (⟨3, 0, 0, 3, 0, -9223372036854775808, 0⟩, true), (⟨3, 0, 0, 4, 0, 0, 0⟩, false), (⟨3, 0, 0, 0, 1, 0, 0⟩, false), (⟨3, 0, 0, -1, 0, 0, 0⟩, false), (⟨4, 0, 0, 1, 0, 0, 0⟩, true), (⟨5, 0, 0, 0, 0, 0, 0⟩, false), (⟨5, 0, 0, 0, 1, 0, 0⟩, true), (⟨6, 0, 0, 1, 0, 0, 0⟩, true), (⟨7, 0, 0, 0, 0, 0, 0⟩, true), (⟨7, 0, 1, 0, 0, 0, 0⟩, false), (⟨8, 0, 0, 3, 0, 0, 0⟩, true), (⟨9, 0, 0, 1, 0, 0, 0⟩, true), (⟨10, 0, 0, 0, 0, 0, 0⟩, false), (⟨10, 0, 0, 1, 0, 0, 1⟩, true), (⟨10, 0, 0, 0, 0, 0, 6⟩, true), (⟨10, 0, 0, 1, 0, 0, 6⟩, false), (⟨10, 0, 0, 0, 0, 0, 7⟩, false), (⟨11, 0, 0, 1, 0, 0, 0⟩, true), (⟨12, 0, 0, 0, 0, 0, 0⟩, true), (⟨12, 0, 0, 0, 0, 0, 1⟩, false), (⟨13, 1, 0, 0, 0, 0, 0⟩, true), (⟨0, 0, 0, 0, 0, 0, 0⟩, false), (⟨14, 0, 0, 0, 0, 0, 0⟩, false)]
def rows33 : List (List Value) := names33.map fun x => evL x.1 ++ [.bool x.2]
theorem names33_ok : ∀ x ∈ names33, mayE x.1 3 4 2 = x.2 ∧ EvOk x.1 := by unfold EvOk; decide
theorem rows33_len : ∀ r ∈ rows33, r.length = 8 := by
  intro r hr
  obtain ⟨x, -, rfl⟩ := List.mem_map.1 hr
  rfl
theorem rows33_size : rows33.length = 33 := rfl
theorem rows33_get {n k : Nat} {y : Ev × Bool} (hy : names33[n]? = some y) (hk : k < 8) : (flatA rows33)[n * 8 + k]? = (evL y.1 ++ [.bool y.2])[k]? := by
  have hl : n < rows33.length := by unfold rows33; rw [List.length_map]; exact (List.getElem?_eq_some_iff.1 hy).1
  rw [flatA_get rows33_len n k hl hk]
  have : rows33[n] = evL y.1 ++ [.bool y.2] := by
    have e : rows33[n]? = some (evL y.1 ++ [.bool y.2]) := by unfold rows33; rw [List.getElem?_map, hy]; rfl
    rw [List.getElem?_eq_getElem hl] at e
    exact Option.some.inj e
  rw [this]
theorem oper_wp_val {P : Program} {o : Oper} {a : Act} {w w' : World} {v : Value} {K : Act → World → Prop} {Q : Exit → Act → World → Prop} (h : (execOp a.eval o).run P w = .ok (.value v) w') (k : K (a.put o.dst v) w') : o.wp P a w K Q := by
  unfold Oper.wp
  rw [h]
  exact k
def texts17 : List (List UInt8) := [[], [49], [49, 32, 108, 111, 111, 107, 32, 51], [49, 32, 108, 111, 111, 107, 32, 51, 32, 55, 32, 48], [55, 32, 119, 97, 105, 116], [45, 49, 32, 119, 97, 105, 116], [49, 32, 119, 97, 105, 116, 32], [32, 49, 32, 119, 97, 105, 116], [49, 32, 32, 119, 97, 105, 116], [49, 32, 110, 111, 110, 101], [49, 32, 108, 111, 97, 100, 32, 51, 50, 32, 49], [49, 32, 108, 111, 97, 100, 32, 49, 32, 57, 50, 50, 51, 51, 55, 50, 48, 51, 54, 56, 53, 52, 55, 55, 53, 56, 48, 56], [49, 32, 108, 111, 97, 100, 32, 49, 32, 45, 48], [49, 32, 108, 111, 97, 100, 32, 49, 32, 43, 49], [49, 32, 97, 98, 111, 114, 116, 32, 48, 32, 48], [49, 32, 97, 98, 111, 114, 116, 32, 54, 32, 49], [49, 32, 98, 101, 103, 105, 110, 32, 54, 32, 48]]
theorem text17_0 : parseR [] = (evZ, 4) := by kernel_rfl
theorem text17_1 : parseR [49] = (evZ, 4) := by kernel_rfl
theorem text17_2 : parseR [49, 32, 108, 111, 111, 107, 32, 51] = (evZ, 4) := by kernel_rfl
theorem text17_3 : parseR [49, 32, 108, 111, 111, 107, 32, 51, 32, 55, 32, 48] = (evZ, 4) := by kernel_rfl
theorem text17_4 : parseR [55, 32, 119, 97, 105, 116] = (evZ, 4) := by kernel_rfl
theorem text17_5 : parseR [45, 49, 32, 119, 97, 105, 116] = (evZ, 4) := by kernel_rfl
theorem text17_6 : parseR [49, 32, 119, 97, 105, 116, 32] = (evZ, 4) := by kernel_rfl
theorem text17_7 : parseR [32, 49, 32, 119, 97, 105, 116] = (evZ, 4) := by kernel_rfl
theorem text17_8 : parseR [49, 32, 32, 119, 97, 105, 116] = (evZ, 4) := by kernel_rfl
theorem text17_9 : parseR [49, 32, 110, 111, 110, 101] = (evZ, 4) := by kernel_rfl
theorem text17_10 : parseR [49, 32, 108, 111, 97, 100, 32, 51, 50, 32, 49] = (evZ, 4) := by kernel_rfl
theorem text17_11 : parseR [49, 32, 108, 111, 97, 100, 32, 49, 32, 57, 50, 50, 51, 51, 55, 50, 48, 51, 54, 56, 53, 52, 55, 55, 53, 56, 48, 56] = (evZ, 4) := by kernel_rfl
theorem text17_12 : parseR [49, 32, 108, 111, 97, 100, 32, 49, 32, 45, 48] = (evZ, 4) := by kernel_rfl
theorem text17_13 : parseR [49, 32, 108, 111, 97, 100, 32, 49, 32, 43, 49] = (evZ, 4) := by kernel_rfl
theorem text17_14 : parseR [49, 32, 97, 98, 111, 114, 116, 32, 48, 32, 48] = (evZ, 4) := by kernel_rfl
theorem text17_15 : parseR [49, 32, 97, 98, 111, 114, 116, 32, 54, 32, 49] = (evZ, 4) := by kernel_rfl
theorem text17_16 : parseR [49, 32, 98, 101, 103, 105, 110, 32, 54, 32, 48] = (evZ, 4) := by kernel_rfl
theorem text17_s : parseR [53, 32, 115, 116, 111, 114, 101, 32, 51, 49, 32, 45, 57, 50, 50, 51, 51, 55, 50, 48, 51, 54, 56, 53, 52, 55, 55, 53, 56, 48, 56] = (⟨8, 5, 0, 31, 0, -9223372036854775808, 0⟩, 0) := by kernel_rfl
theorem texts17_ok : ∀ l ∈ texts17, parseR l = (evZ, 4) ∧ l.length ≤ 1000 := by
  intro l hl
  unfold texts17 at hl
  simp only [List.mem_cons, List.not_mem_nil, or_false] at hl
  rcases hl with rfl | rfl | rfl | rfl | rfl | rfl | rfl | rfl | rfl | rfl | rfl | rfl | rfl | rfl | rfl | rfl | rfl
  · exact ⟨text17_0, by decide⟩
  · exact ⟨text17_1, by decide⟩
  · exact ⟨text17_2, by decide⟩
  · exact ⟨text17_3, by decide⟩
  · exact ⟨text17_4, by decide⟩
  · exact ⟨text17_5, by decide⟩
  · exact ⟨text17_6, by decide⟩
  · exact ⟨text17_7, by decide⟩
  · exact ⟨text17_8, by decide⟩
  · exact ⟨text17_9, by decide⟩
  · exact ⟨text17_10, by decide⟩
  · exact ⟨text17_11, by decide⟩
  · exact ⟨text17_12, by decide⟩
  · exact ⟨text17_13, by decide⟩
  · exact ⟨text17_14, by decide⟩
  · exact ⟨text17_15, by decide⟩
  · exact ⟨text17_16, by decide⟩
def tbl17 : Array Value := (texts17.map fun l => Value.string ⟨l.toArray⟩).toArray
theorem tbl17_get {n : Nat} {l : List UInt8} (h : texts17[n]? = some l) : tbl17[n]? = some (.string ⟨l.toArray⟩) := by
  unfold tbl17
  rw [List.getElem?_toArray, List.getElem?_map, h]
  rfl
set_option maxRecDepth 100000 in
set_option maxHeartbeats 4000000 in
theorem names_any (w : World) (hS : Std w) : Calls Tryd.prog 7 #[] w fun e w' => e = .returned (.bool true) ∧ Below w.heap.size w w' := by
  have HN := hid (fun (k : Int) (hk : 0 ≤ k ∧ k ≤ 255) => name_any k hk w hS.names)
  have HK := hid (fun (l : List UInt8) => kind_any l w hS.names)
  unfold strV at HN
  have HS := hid hS
  clear hS
  go_enter Tryd.func7, Tryd.ntmps7
  go_wp2_with fail
  go_loopw [1] (fun k wr => ∃ n : Nat, 1 ≤ n ∧ n ≤ 14 ∧ k = .int .u8 (n : Int) ∧ w = wr) (fun k _ => 14 - (intOf k).toNat)
  case atStart => exact ⟨1, by omega, by omega, rfl, rfl⟩
  case round =>
    obtain ⟨n, h1, h2, rfl, rfl⟩ := hrel
    have H12 := hid (And.intro h1 h2)
    by_cases hlt : n ≤ 13
    · have j1 : decide ((n : Int) ≤ 13) = true := by rw [decide_eq_true_iff]; omega
      have j2 : (0 : Int) ≤ (n : Int) := by omega
      have j3 : (n : Int) < 14 := by omega
      have j4 : IntKind.u8.wrap ((n : Int) + 1) = (n : Int) + 1 := by simp only [IntKind.wrap, IntKind.bits, IntKind.signed]; simp; omega
      have HLT := hid hlt
      have HN1 := hid (HN.out (n : Int) (by omega))
      have HK1 := hid (HK.out (nameT (n : Int)))
      rw [nameT_kind n h1 hlt] at HK1
      unfold kindV at HK1
      simp only [Option.getD_some, Option.isSome_some] at HK1
      generalize nameT (n : Int) = nm at HN1 HK1
      clear h1 h2 hlt
      go_wp2_with fail
      refine HN1.out.mono ?_
      rintro e' w' ⟨rfl, rfl⟩
      go_wp2_with fail
      refine HK1.out.mono ?_
      rintro e' w' ⟨rfl, rfl⟩
      go_wp2_with fail
      go_roundw
      case rel => exact ⟨n + 1, by omega, by have := HLT.out; omega, by simp, trivial⟩
      case measure => have := HLT.out; simp [intOf]; omega
    · obtain rfl : n = 14 := by omega
      clear h1 h2 hlt
      have HK0 := hid (HK.out [])
      rw [show kindOf [] = none by decide] at HK0
      unfold kindV at HK0
      simp only [Option.getD_none, Option.isSome_none] at HK0
      have HN0 := hid (HN.out 0 (by omega))
      have HN14 := hid (HN.out 14 (by omega))
      rw [show nameT 0 = [] by decide] at HN0
      rw [show nameT 14 = [] by decide] at HN14
      go_wp2_with fail
      refine HK0.out.mono ?_
      rintro e' w' ⟨rfl, rfl⟩
      go_wp2_with fail
      refine HN0.out.mono ?_
      rintro e' w' ⟨rfl, rfl⟩
      go_wp2_with fail
      refine HN14.out.mono ?_
      rintro e' w' ⟨rfl, rfl⟩
      go_wp2_with fail
      refine oper_wp_val (v := .slice (some ⟨w.heap.size, 0, none⟩) 33 33) (w' := w.alloc (.cells (flatA rows33) 38)) (by kernel_rfl) ?_
      have HT : Hid (Blk (w.alloc (.cells (flatA rows33) 38)) w.heap.size (flatA rows33) 38) := hid (Blk.new _ _ _)
      have HB : Hid (Below w.heap.size w (w.alloc (.cells (flatA rows33) 38))) := hid (ext_alloc (ext_refl _) _)
      generalize w.alloc (.cells (flatA rows33) 38) = W1 at HT HB ⊢
      go_wp2_with fail
      go_loopw [113] (fun k wr => ∃ n : Nat, n ≤ 33 ∧ k = .int .i64 (n : Int) ∧ Below w.heap.size w wr ∧ Blk wr w.heap.size (flatA rows33) 38) (fun k _ => 33 - (intOf k).toNat)
      case atStart => exact ⟨0, by omega, rfl, HB.out, HT.out⟩
      case round =>
        obtain ⟨n, h1, rfl, hb, ht⟩ := hrel
        have HBn := hid hb
        have HTn := hid ht
        clear hb ht
        by_cases hlt : n < 33
        · obtain ⟨⟨⟨kind, th, tx, at_, v, x, why⟩, m⟩, hy⟩ : ∃ y : Ev × Bool, names33[n]? = some y := ⟨_, List.getElem?_eq_getElem (by exact hlt)⟩
          have hok := names33_ok _ (List.mem_of_getElem? hy)
          have hg := fun k => rows33_get (k := k) hy
          have c0 := HTn.out.cell (n * 8 + 0) (hg 0 (by omega))
          have c1 := HTn.out.cell (n * 8 + 1) (hg 1 (by omega))
          have c2 := HTn.out.cell (n * 8 + 2) (hg 2 (by omega))
          have c3 := HTn.out.cell (n * 8 + 3) (hg 3 (by omega))
          have c4 := HTn.out.cell (n * 8 + 4) (hg 4 (by omega))
          have c5 := HTn.out.cell (n * 8 + 5) (hg 5 (by omega))
          have c6 := HTn.out.cell (n * 8 + 6) (hg 6 (by omega))
          have c7 := HTn.out.cell (n * 8 + 7) (hg 7 (by omega))
          simp only [Nat.add_zero] at c0
          have HMY := hid (fun W (hW : Below w.heap.size w W) => may_any ⟨kind, th, tx, at_, v, x, why⟩ 3 4 2 W hok.2 (HS.out.kinds.below hW))
          rw [hok.1] at HMY
          dsimp only [evA] at HMY
          have j1 : decide ((n : Int) < 33) = true := by rw [decide_eq_true_iff]; omega
          have j2 : (0 : Int) ≤ (n : Int) := by omega
          have j3 : (n : Int) < 33 := by omega
          have j4 : wrap64 ((n : Int) + 1) = (n : Int) + 1 := by unfold wrap64; omega
          have HLT := hid hlt
          clear h1 hlt hg hok hy
          go_wp2_with fail
          have HB2 : Hid (Below w.heap.size w (wr.alloc (.cells #[.int .u8 kind, .int .i64 th, .int .i64 tx, .int .i64 at_, .int .i64 v, .int .i64 x, .int .u8 why, .bool m] 38))) := hid (ext_alloc HBn.out _)
          have HE2 : Hid (Blk (wr.alloc (.cells #[.int .u8 kind, .int .i64 th, .int .i64 tx, .int .i64 at_, .int .i64 v, .int .i64 x, .int .u8 why, .bool m] 38)) wr.heap.size #[.int .u8 kind, .int .i64 th, .int .i64 tx, .int .i64 at_, .int .i64 v, .int .i64 x, .int .u8 why, .bool m] 38) := hid (Blk.new _ _ _)
          have HT2 : Hid (Blk (wr.alloc (.cells #[.int .u8 kind, .int .i64 th, .int .i64 tx, .int .i64 at_, .int .i64 v, .int .i64 x, .int .u8 why, .bool m] 38)) w.heap.size (flatA rows33) 38) := hid (HTn.out.alloc _)
          generalize (wr.alloc (.cells #[.int .u8 kind, .int .i64 th, .int .i64 tx, .int .i64 at_, .int .i64 v, .int .i64 x, .int .u8 why, .bool m] 38)) = W2 at HB2 HE2 HT2 ⊢
          clear c0 c1 c2 c3 c4 c5 c6 c7 HTn HBn
          apply wp_region_vals' [.pointer (some ⟨wr.heap.size, 0, none⟩), .agg #[.int .u8 kind, .int .i64 th, .int .i64 tx, .int .i64 at_, .int .i64 v, .int .i64 x, .int .u8 why], .bool m, .pointer (some ⟨wr.heap.size, 7, none⟩), .bool m, .bool false] (fun w' => Below W2.heap.size W2 w')
          focus (simp [putAll, dstOf, Act.put, List.getD]; rfl)
          case hm => kernel_rfl
          case hd => kernel_rfl
          case hb => kernel_rfl
          case hdep => kernel_rfl
          case hsel => kernel_rfl
          case hsz => kernel_rfl
          case h0 => exact ext_drew (ext_refl _)
          case hstep =>
            repeat' (first | exact trivial | (refine And.intro ?_ ?_))
            all_goals (
              intro w' hG
              rw [if_pos (by kernel_rfl)]
              intro K Qp hK
              have d0 := later hG (HE2.out.cell 0 rfl)
              have d1 := later hG (HE2.out.cell 1 rfl)
              have d2 := later hG (HE2.out.cell 2 rfl)
              have d3 := later hG (HE2.out.cell 3 rfl)
              have d4 := later hG (HE2.out.cell 4 rfl)
              have d5 := later hG (HE2.out.cell 5 rfl)
              have d6 := later hG (HE2.out.cell 6 rfl)
              have d7 := later hG (HE2.out.cell 7 rfl)
              have HGG := hid hG
              have HG2 := hid (ext_trans HB2.out hG)
              clear hG
              go_simp
              first
              | exact hK _ HGG.out
              | (refine (HMY.out _ HG2.out).mono ?_
                 rintro e' w1 ⟨rfl, hb1⟩
                 exact hK _ (ext_trans HGG.out hb1))
              | (go_wp2_with fail
                 exact hK _ HGG.out))
          case hdone =>
            intro w' hG
            have HB3 := hid (ext_trans HB2.out hG)
            have HT3 := hid (HT2.out.below hG)
            clear hG
            go_wp2_with fail
            go_roundw
            case rel => exact ⟨n + 1, by have := HLT.out; omega, by simp, HB3.out, HT3.out⟩
            case measure => have := HLT.out; simp [intOf]; omega
        · obtain rfl : n = 33 := by omega
          clear hlt h1
          have HB2 : Hid (Below w.heap.size w (wr.alloc (.cells #[.int .u8 12, .int .i64 0, .int .i64 0, .int .i64 0, .int .i64 0, .int .i64 0, .int .u8 0] 23))) := hid (ext_alloc HBn.out _)
          have HE2 : Hid (Blk (wr.alloc (.cells #[.int .u8 12, .int .i64 0, .int .i64 0, .int .i64 0, .int .i64 0, .int .i64 0, .int .u8 0] 23)) wr.heap.size #[.int .u8 12, .int .i64 0, .int .i64 0, .int .i64 0, .int .i64 0, .int .i64 0, .int .u8 0] 23) := hid (Blk.new _ _ _)
          have HB3 : Hid (Below w.heap.size w ((wr.alloc (.cells #[.int .u8 12, .int .i64 0, .int .i64 0, .int .i64 0, .int .i64 0, .int .i64 0, .int .u8 0] 23)).alloc (.cells #[.string ⟨#[]⟩, .string ⟨#[49]⟩, .string ⟨#[49, 32, 108, 111, 111, 107, 32, 51]⟩, .string ⟨#[49, 32, 108, 111, 111, 107, 32, 51, 32, 55, 32, 48]⟩, .string ⟨#[55, 32, 119, 97, 105, 116]⟩, .string ⟨#[45, 49, 32, 119, 97, 105, 116]⟩, .string ⟨#[49, 32, 119, 97, 105, 116, 32]⟩, .string ⟨#[32, 49, 32, 119, 97, 105, 116]⟩, .string ⟨#[49, 32, 32, 119, 97, 105, 116]⟩, .string ⟨#[49, 32, 110, 111, 110, 101]⟩, .string ⟨#[49, 32, 108, 111, 97, 100, 32, 51, 50, 32, 49]⟩, .string ⟨#[49, 32, 108, 111, 97, 100, 32, 49, 32, 57, 50, 50, 51, 51, 55, 50, 48, 51, 54, 56, 53, 52, 55, 55, 53, 56, 48, 56]⟩, .string ⟨#[49, 32, 108, 111, 97, 100, 32, 49, 32, 45, 48]⟩, .string ⟨#[49, 32, 108, 111, 97, 100, 32, 49, 32, 43, 49]⟩, .string ⟨#[49, 32, 97, 98, 111, 114, 116, 32, 48, 32, 48]⟩, .string ⟨#[49, 32, 97, 98, 111, 114, 116, 32, 54, 32, 49]⟩, .string ⟨#[49, 32, 98, 101, 103, 105, 110, 32, 54, 32, 48]⟩] 9))) := hid (ext_alloc HB2.out _)
          have HE3 : Hid (Blk ((wr.alloc (.cells #[.int .u8 12, .int .i64 0, .int .i64 0, .int .i64 0, .int .i64 0, .int .i64 0, .int .u8 0] 23)).alloc (.cells #[.string ⟨#[]⟩, .string ⟨#[49]⟩, .string ⟨#[49, 32, 108, 111, 111, 107, 32, 51]⟩, .string ⟨#[49, 32, 108, 111, 111, 107, 32, 51, 32, 55, 32, 48]⟩, .string ⟨#[55, 32, 119, 97, 105, 116]⟩, .string ⟨#[45, 49, 32, 119, 97, 105, 116]⟩, .string ⟨#[49, 32, 119, 97, 105, 116, 32]⟩, .string ⟨#[32, 49, 32, 119, 97, 105, 116]⟩, .string ⟨#[49, 32, 32, 119, 97, 105, 116]⟩, .string ⟨#[49, 32, 110, 111, 110, 101]⟩, .string ⟨#[49, 32, 108, 111, 97, 100, 32, 51, 50, 32, 49]⟩, .string ⟨#[49, 32, 108, 111, 97, 100, 32, 49, 32, 57, 50, 50, 51, 51, 55, 50, 48, 51, 54, 56, 53, 52, 55, 55, 53, 56, 48, 56]⟩, .string ⟨#[49, 32, 108, 111, 97, 100, 32, 49, 32, 45, 48]⟩, .string ⟨#[49, 32, 108, 111, 97, 100, 32, 49, 32, 43, 49]⟩, .string ⟨#[49, 32, 97, 98, 111, 114, 116, 32, 48, 32, 48]⟩, .string ⟨#[49, 32, 97, 98, 111, 114, 116, 32, 54, 32, 49]⟩, .string ⟨#[49, 32, 98, 101, 103, 105, 110, 32, 54, 32, 48]⟩] 9)) wr.heap.size #[.int .u8 12, .int .i64 0, .int .i64 0, .int .i64 0, .int .i64 0, .int .i64 0, .int .u8 0] 23) := hid (HE2.out.alloc _)
          have HT3 : Hid (Blk ((wr.alloc (.cells #[.int .u8 12, .int .i64 0, .int .i64 0, .int .i64 0, .int .i64 0, .int .i64 0, .int .u8 0] 23)).alloc (.cells #[.string ⟨#[]⟩, .string ⟨#[49]⟩, .string ⟨#[49, 32, 108, 111, 111, 107, 32, 51]⟩, .string ⟨#[49, 32, 108, 111, 111, 107, 32, 51, 32, 55, 32, 48]⟩, .string ⟨#[55, 32, 119, 97, 105, 116]⟩, .string ⟨#[45, 49, 32, 119, 97, 105, 116]⟩, .string ⟨#[49, 32, 119, 97, 105, 116, 32]⟩, .string ⟨#[32, 49, 32, 119, 97, 105, 116]⟩, .string ⟨#[49, 32, 32, 119, 97, 105, 116]⟩, .string ⟨#[49, 32, 110, 111, 110, 101]⟩, .string ⟨#[49, 32, 108, 111, 97, 100, 32, 51, 50, 32, 49]⟩, .string ⟨#[49, 32, 108, 111, 97, 100, 32, 49, 32, 57, 50, 50, 51, 51, 55, 50, 48, 51, 54, 56, 53, 52, 55, 55, 53, 56, 48, 56]⟩, .string ⟨#[49, 32, 108, 111, 97, 100, 32, 49, 32, 45, 48]⟩, .string ⟨#[49, 32, 108, 111, 97, 100, 32, 49, 32, 43, 49]⟩, .string ⟨#[49, 32, 97, 98, 111, 114, 116, 32, 48, 32, 48]⟩, .string ⟨#[49, 32, 97, 98, 111, 114, 116, 32, 54, 32, 49]⟩, .string ⟨#[49, 32, 98, 101, 103, 105, 110, 32, 54, 32, 48]⟩] 9)) (wr.heap.size + 1) #[.string ⟨#[]⟩, .string ⟨#[49]⟩, .string ⟨#[49, 32, 108, 111, 111, 107, 32, 51]⟩, .string ⟨#[49, 32, 108, 111, 111, 107, 32, 51, 32, 55, 32, 48]⟩, .string ⟨#[55, 32, 119, 97, 105, 116]⟩, .string ⟨#[45, 49, 32, 119, 97, 105, 116]⟩, .string ⟨#[49, 32, 119, 97, 105, 116, 32]⟩, .string ⟨#[32, 49, 32, 119, 97, 105, 116]⟩, .string ⟨#[49, 32, 32, 119, 97, 105, 116]⟩, .string ⟨#[49, 32, 110, 111, 110, 101]⟩, .string ⟨#[49, 32, 108, 111, 97, 100, 32, 51, 50, 32, 49]⟩, .string ⟨#[49, 32, 108, 111, 97, 100, 32, 49, 32, 57, 50, 50, 51, 51, 55, 50, 48, 51, 54, 56, 53, 52, 55, 55, 53, 56, 48, 56]⟩, .string ⟨#[49, 32, 108, 111, 97, 100, 32, 49, 32, 45, 48]⟩, .string ⟨#[49, 32, 108, 111, 97, 100, 32, 49, 32, 43, 49]⟩, .string ⟨#[49, 32, 97, 98, 111, 114, 116, 32, 48, 32, 48]⟩, .string ⟨#[49, 32, 97, 98, 111, 114, 116, 32, 54, 32, 49]⟩, .string ⟨#[49, 32, 98, 101, 103, 105, 110, 32, 54, 32, 48]⟩] 9) := hid (Blk.new' _ _ _ (Array.size_push ..).symm)
          have HL : Hid (∀ (n : Nat) (l : List UInt8), texts17[n]? = some l → (#[.string ⟨#[]⟩, .string ⟨#[49]⟩, .string ⟨#[49, 32, 108, 111, 111, 107, 32, 51]⟩, .string ⟨#[49, 32, 108, 111, 111, 107, 32, 51, 32, 55, 32, 48]⟩, .string ⟨#[55, 32, 119, 97, 105, 116]⟩, .string ⟨#[45, 49, 32, 119, 97, 105, 116]⟩, .string ⟨#[49, 32, 119, 97, 105, 116, 32]⟩, .string ⟨#[32, 49, 32, 119, 97, 105, 116]⟩, .string ⟨#[49, 32, 32, 119, 97, 105, 116]⟩, .string ⟨#[49, 32, 110, 111, 110, 101]⟩, .string ⟨#[49, 32, 108, 111, 97, 100, 32, 51, 50, 32, 49]⟩, .string ⟨#[49, 32, 108, 111, 97, 100, 32, 49, 32, 57, 50, 50, 51, 51, 55, 50, 48, 51, 54, 56, 53, 52, 55, 55, 53, 56, 48, 56]⟩, .string ⟨#[49, 32, 108, 111, 97, 100, 32, 49, 32, 45, 48]⟩, .string ⟨#[49, 32, 108, 111, 97, 100, 32, 49, 32, 43, 49]⟩, .string ⟨#[49, 32, 97, 98, 111, 114, 116, 32, 48, 32, 48]⟩, .string ⟨#[49, 32, 97, 98, 111, 114, 116, 32, 54, 32, 49]⟩, .string ⟨#[49, 32, 98, 101, 103, 105, 110, 32, 54, 32, 48]⟩] : Array Value)[n]? = some (.string ⟨l.toArray⟩)) := hid (fun n l h => tbl17_get h)
          have HPA := hid (fun (l : List UInt8) (hl : l.length ≤ 1000) W (hW : Below w.heap.size w W) => parse_any l hl W (HS.out.below hW))
          clear HB2 HE2 HBn HTn HB HT HK0 HN0 HN14
          go_wp2_with fail
          generalize (#[.string ⟨#[]⟩, .string ⟨#[49]⟩, .string ⟨#[49, 32, 108, 111, 111, 107, 32, 51]⟩, .string ⟨#[49, 32, 108, 111, 111, 107, 32, 51, 32, 55, 32, 48]⟩, .string ⟨#[55, 32, 119, 97, 105, 116]⟩, .string ⟨#[45, 49, 32, 119, 97, 105, 116]⟩, .string ⟨#[49, 32, 119, 97, 105, 116, 32]⟩, .string ⟨#[32, 49, 32, 119, 97, 105, 116]⟩, .string ⟨#[49, 32, 32, 119, 97, 105, 116]⟩, .string ⟨#[49, 32, 110, 111, 110, 101]⟩, .string ⟨#[49, 32, 108, 111, 97, 100, 32, 51, 50, 32, 49]⟩, .string ⟨#[49, 32, 108, 111, 97, 100, 32, 49, 32, 57, 50, 50, 51, 51, 55, 50, 48, 51, 54, 56, 53, 52, 55, 55, 53, 56, 48, 56]⟩, .string ⟨#[49, 32, 108, 111, 97, 100, 32, 49, 32, 45, 48]⟩, .string ⟨#[49, 32, 108, 111, 97, 100, 32, 49, 32, 43, 49]⟩, .string ⟨#[49, 32, 97, 98, 111, 114, 116, 32, 48, 32, 48]⟩, .string ⟨#[49, 32, 97, 98, 111, 114, 116, 32, 54, 32, 49]⟩, .string ⟨#[49, 32, 98, 101, 103, 105, 110, 32, 54, 32, 48]⟩] : Array Value) = tb at HB3 HE3 HT3 HL ⊢
          generalize (wr.alloc (.cells #[.int .u8 12, .int .i64 0, .int .i64 0, .int .i64 0, .int .i64 0, .int .i64 0, .int .u8 0] 23)).alloc (.cells tb 9) = W3 at HB3 HE3 HT3 ⊢
          go_loopw [127] (fun k w5 => ∃ n : Nat, n ≤ 17 ∧ k = .int .i64 (n : Int) ∧ Below w.heap.size w w5 ∧ Blk w5 wr.heap.size #[.int .u8 12, .int .i64 0, .int .i64 0, .int .i64 0, .int .i64 0, .int .i64 0, .int .u8 0] 23 ∧ Blk w5 (wr.heap.size + 1) tb 9) (fun k _ => 17 - (intOf k).toNat)
          case atStart => exact ⟨0, by omega, rfl, HB3.out, HE3.out, HT3.out⟩
          case round =>
            obtain ⟨n, h1, rfl, hb, he, ht⟩ := hrel
            rename_i w5
            have HB5 := hid hb
            have HE5 := hid he
            have HT5 := hid ht
            clear hb he ht HB3 HE3 HT3
            by_cases hlt : n < 17
            · obtain ⟨l, hy⟩ : ∃ l, texts17[n]? = some l := ⟨_, List.getElem?_eq_getElem (by exact hlt)⟩
              have hok := texts17_ok _ (List.mem_of_getElem? hy)
              have c0 := HT5.out.cell n (HL.out n l hy)
              have HP1 := hid (HPA.out l hok.2 _ HB5.out)
              unfold ParseP at HP1
              rw [hok.1] at HP1
              dsimp only [evA, evZ] at HP1
              have j1 : decide ((n : Int) < 17) = true := by rw [decide_eq_true_iff]; omega
              have j2 : (0 : Int) ≤ (n : Int) := by omega
              have j3 : (n : Int) < 17 := by omega
              have j4 : wrap64 ((n : Int) + 1) = (n : Int) + 1 := by unfold wrap64; omega
              have HLT := hid hlt
              clear h1 hlt hok hy
              go_wp2_with fail
              refine HP1.out.mono ?_
              rintro e' w6 ⟨rfl, hb6⟩
              have HB6 := hid (ext_alloc (ext_trans HB5.out hb6) (.cells #[.int .u8 0, .int .i64 0, .int .i64 0, .int .i64 0, .int .i64 0, .int .i64 0, .int .u8 0] 23))
              have HE6 := hid ((HE5.out.below hb6).alloc (.cells #[.int .u8 0, .int .i64 0, .int .i64 0, .int .i64 0, .int .i64 0, .int .i64 0, .int .u8 0] 23))
              have HT6 := hid ((HT5.out.below hb6).alloc (.cells #[.int .u8 0, .int .i64 0, .int .i64 0, .int .i64 0, .int .i64 0, .int .i64 0, .int .u8 0] 23))
              clear hb6 c0
              go_wp2_with fail
              go_roundw
              case rel =>
                refine ⟨_, _, _, _, _, _, _, _, _, _, _, _, _, _, _, _, ?_, rfl⟩
                exact ⟨n + 1, by have := HLT.out; omega, by simp, HB6.out, HE6.out, HT6.out⟩
              case measure => have := HLT.out; simp [intOf]; omega
            · obtain rfl : n = 17 := by omega
              clear hlt h1
              have HP1 := hid (HPA.out [53, 32, 115, 116, 111, 114, 101, 32, 51, 49, 32, 45, 57, 50, 50, 51, 51, 55, 50, 48, 51, 54, 56, 53, 52, 55, 55, 53, 56, 48, 56] (by decide) _ HB5.out)
              unfold ParseP at HP1
              rw [text17_s] at HP1
              dsimp only [evA] at HP1
              have HM := hid (fun T V S W (hW : Below w.heap.size w W) => may_any ⟨12, 0, 0, 0, 0, 0, 0⟩ T V S W (by unfold EvOk; decide) (HS.out.kinds.below hW))
              dsimp only [evA] at HM
              have HA := hid (fun W (hW : Below w.heap.size w W) => awake_any W (HS.out.below hW))
              go_wp2_with fail
              refine HP1.out.mono ?_
              rintro e' w6 ⟨rfl, hb6⟩
              have HB7 := hid (ext_alloc (ext_trans HB5.out hb6) (.cells #[.int .u8 8, .int .i64 5, .int .i64 0, .int .i64 31, .int .i64 0, .int .i64 (-9223372036854775808), .int .u8 0] 23))
              have HE7 := hid ((HE5.out.below hb6).alloc (.cells #[.int .u8 8, .int .i64 5, .int .i64 0, .int .i64 31, .int .i64 0, .int .i64 (-9223372036854775808), .int .u8 0] 23))
              have HL7 : Hid (Blk (w6.alloc (.cells #[.int .u8 8, .int .i64 5, .int .i64 0, .int .i64 31, .int .i64 0, .int .i64 (-9223372036854775808), .int .u8 0] 23)) w6.heap.size #[.int .u8 8, .int .i64 5, .int .i64 0, .int .i64 31, .int .i64 0, .int .i64 (-9223372036854775808), .int .u8 0] 23) := hid (Blk.new _ _ _)
              clear hb6 HB5 HE5 HT5
              have r0 := HE7.out.cell 0 rfl
              have r1 := HE7.out.cell 1 rfl
              have r2 := HE7.out.cell 2 rfl
              have r3 := HE7.out.cell 3 rfl
              have r4 := HE7.out.cell 4 rfl
              have r5 := HE7.out.cell 5 rfl
              have r6 := HE7.out.cell 6 rfl
              go_wp2_with fail
              refine (HM.out 0 1 1 _ HB7.out).mono ?_
              rw [show mayE ⟨12, 0, 0, 0, 0, 0, 0⟩ 0 1 1 = false by decide]
              rintro e' w8 ⟨rfl, hb8⟩
              have HB8 := hid (ext_trans HB7.out hb8)
              have HE8 := hid (HE7.out.below hb8)
              have HL8 := hid (HL7.out.below hb8)
              clear r0 r1 r2 r3 r4 r5 r6 hb8 HB7 HE7 HL7
              have r0 := HE8.out.cell 0 rfl
              have r1 := HE8.out.cell 1 rfl
              have r2 := HE8.out.cell 2 rfl
              have r3 := HE8.out.cell 3 rfl
              have r4 := HE8.out.cell 4 rfl
              have r5 := HE8.out.cell 5 rfl
              have r6 := HE8.out.cell 6 rfl
              go_wp2_with fail
              refine (HM.out 7 1 1 _ HB8.out).mono ?_
              rw [show mayE ⟨12, 0, 0, 0, 0, 0, 0⟩ 7 1 1 = false by decide]
              rintro e' w9 ⟨rfl, hb9⟩
              have HB9 := hid (ext_trans HB8.out hb9)
              have HE9 := hid (HE8.out.below hb9)
              have HL9 := hid (HL8.out.below hb9)
              clear r0 r1 r2 r3 r4 r5 r6 hb9 HB8 HE8 HL8
              have r0 := HE9.out.cell 0 rfl
              have r1 := HE9.out.cell 1 rfl
              have r2 := HE9.out.cell 2 rfl
              have r3 := HE9.out.cell 3 rfl
              have r4 := HE9.out.cell 4 rfl
              have r5 := HE9.out.cell 5 rfl
              have r6 := HE9.out.cell 6 rfl
              go_wp2_with fail
              refine (HM.out 1 33 1 _ HB9.out).mono ?_
              rw [show mayE ⟨12, 0, 0, 0, 0, 0, 0⟩ 1 33 1 = false by decide]
              rintro e' w10 ⟨rfl, hb10⟩
              have HB10 := hid (ext_trans HB9.out hb10)
              have HE10 := hid (HE9.out.below hb10)
              have HL10 := hid (HL9.out.below hb10)
              clear r0 r1 r2 r3 r4 r5 r6 hb10 HB9 HE9 HL9
              have r0 := HE10.out.cell 0 rfl
              have r1 := HE10.out.cell 1 rfl
              have r2 := HE10.out.cell 2 rfl
              have r3 := HE10.out.cell 3 rfl
              have r4 := HE10.out.cell 4 rfl
              have r5 := HE10.out.cell 5 rfl
              have r6 := HE10.out.cell 6 rfl
              go_wp2_with fail
              refine (HM.out 1 1 2 _ HB10.out).mono ?_
              rw [show mayE ⟨12, 0, 0, 0, 0, 0, 0⟩ 1 1 2 = false by decide]
              rintro e' w11 ⟨rfl, hb11⟩
              have HB11 := hid (ext_trans HB10.out hb11)
              have HE11 := hid (HE10.out.below hb11)
              have HL11 := hid (HL10.out.below hb11)
              clear r0 r1 r2 r3 r4 r5 r6 hb11 HB10 HE10 HL10
              have r0 := HE11.out.cell 0 rfl
              have r1 := HE11.out.cell 1 rfl
              have r2 := HE11.out.cell 2 rfl
              have r3 := HE11.out.cell 3 rfl
              have r4 := HE11.out.cell 4 rfl
              have r5 := HE11.out.cell 5 rfl
              have r6 := HE11.out.cell 6 rfl
              go_wp2_with fail
              refine (HM.out 1 0 0 _ HB11.out).mono ?_
              rw [show mayE ⟨12, 0, 0, 0, 0, 0, 0⟩ 1 0 0 = false by decide]
              rintro e' w12 ⟨rfl, hb12⟩
              have HB12 := hid (ext_trans HB11.out hb12)
              have HE12 := hid (HE11.out.below hb12)
              have HL12 := hid (HL11.out.below hb12)
              clear r0 r1 r2 r3 r4 r5 r6 hb12 HB11 HE11 HL11
              have r5 := HL12.out.cell 5 rfl
              go_wp2_with fail
              refine (HA.out _ HB12.out).mono ?_
              rintro e' w13 ⟨rfl, hb13⟩
              have HBz := hid (ext_trans HB12.out hb13)
              clear hb13
              go_wp2_with fail
              go_ret
              exact ⟨rfl, HBz.out⟩
end Go.Proofs.YtlbpollckiidlaaDoor
