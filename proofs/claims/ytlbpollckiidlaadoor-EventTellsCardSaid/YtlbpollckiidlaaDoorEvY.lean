/-
  Walk: the law EventTells.
-/
import Derived.Test.YtlbpollckiidlaaDoorEvR3
import Derived.Test.YtlbpollckiidlaaDoorEvS
namespace Go.Proofs.YtlbpollckiidlaaDoor
set_option linter.unusedVariables false
set_option linter.unusedSimpArgs false
open Go Go.RowKit
set_option maxRecDepth 100000 in
set_option maxHeartbeats 4000000 in
theorem tells_any (e : Ev) (T V S kd : Int) (l : List UInt8) (w : World) (he : EvOk e) (hSi : -9223372036854775808 ≤ S ∧ S ≤ 9223372036854775807) (hk : 0 ≤ kd ∧ kd ≤ 255) (hl : l.length ≤ 9223372036854775807) (hS : Std w) (hR : NamesR w) :
    Calls Tryd.prog 9 #[evA e, .int .i64 T, .int .i64 V, .int .i64 S, .int .u8 kd, .string ⟨l.toArray⟩] w fun e' w' => e' = .returned (.bool true) ∧ Below w.heap.size w w' := by
  have HA := hid (fun W (hW : Below w.heap.size w W) => awake_any W (hS.below hW))
  have HM := hid (fun W (hW : Below w.heap.size w W) => may_any e T V S W he (hS.kinds.below hW))
  have HMR := hid (fun W (hW : Below w.heap.size w W) => rmay_any e T V S W he (hR.below hW))
  have HST := hid (fun W => stripe_any e S W he hSi)
  have HSR := hid (fun W => rstripe_any e S W hSi)
  have HK := hid (fun W (hW : Below w.heap.size w W) => kind_any l W (hS.names.below hW))
  have HKR := hid (fun W (hW : Below w.heap.size w W) => rkind_any l W (hR.below hW))
  have HN := hid (fun W (hW : Below w.heap.size w W) => name_any kd hk W (hS.names.below hW))
  have HNR := hid (fun W (hW : Below w.heap.size w W) => rname_any kd hk W (hR.below hW))
  generalize mayE e T V S = m at HM HMR
  unfold StripeP at HST HSR
  generalize stripeP e S = sp at HST HSR
  obtain ⟨s, is⟩ := sp
  dsimp only at HST HSR
  unfold kindV at HK HKR
  generalize (((kindOf l).getD 0 : Nat) : Int) = k0 at HK HKR
  generalize (kindOf l).isSome = ks at HK HKR
  generalize nameT kd = nm at HN HNR
  unfold strV at HN HNR
  obtain ⟨kind, th, tx, at_, v, x, why⟩ := e
  have HLL := hid hl
  clear he hS hR hSi hk hl
  dsimp only [evA] at HM HMR HST HSR ⊢
  have HB : Hid (Below w.heap.size w (w.alloc (.cells #[.int .u8 kind, .int .i64 th, .int .i64 tx, .int .i64 at_, .int .i64 v, .int .i64 x, .int .u8 why] 23))) := hid (ext_alloc (ext_refl _) _)
  have HE : Hid (Blk (w.alloc (.cells #[.int .u8 kind, .int .i64 th, .int .i64 tx, .int .i64 at_, .int .i64 v, .int .i64 x, .int .u8 why] 23)) w.heap.size #[.int .u8 kind, .int .i64 th, .int .i64 tx, .int .i64 at_, .int .i64 v, .int .i64 x, .int .u8 why] 23) := hid (Blk.new _ _ _)
  by_cases h100 : 100 < l.length
  · have j1 : decide ((100 : Int) < (l.length : Int)) = true := by rw [decide_eq_true_iff]; omega
    have j2 : decide (100 < l.length) = true := decide_eq_true h100
    have j3 : wrap64 (l.length : Int) = (l.length : Int) := by have := HLL.out; unfold wrap64; omega
    clear h100
    go_enter Tryd.func9, Tryd.ntmps9
    go_wp2_with fail
    refine (HA.out _ HB.out).mono ?_
    rintro e' w2 ⟨rfl, hb2⟩
    have HB2 := hid (ext_trans HB.out hb2)
    clear hb2
    go_wp2_with fail
    go_ret
    exact ⟨rfl, HB2.out⟩
  have j1 : decide ((100 : Int) < (l.length : Int)) = false := by rw [decide_eq_false_iff_not]; omega
  have j2 : decide (100 < l.length) = false := decide_eq_false h100
  have j3 : wrap64 (l.length : Int) = (l.length : Int) := by have := HLL.out; unfold wrap64; omega
  clear h100
  have c0 := HE.out.cell 0 rfl
  have c1 := HE.out.cell 1 rfl
  have c2 := HE.out.cell 2 rfl
  have c3 := HE.out.cell 3 rfl
  have c4 := HE.out.cell 4 rfl
  have c5 := HE.out.cell 5 rfl
  have c6 := HE.out.cell 6 rfl
  go_enter Tryd.func9, Tryd.ntmps9
  go_wp2_with fail
  refine (HST.out _).mono ?_
  rintro e' w2 ⟨rfl, hb2⟩
  have HB2 := hid (ext_trans HB.out hb2)
  have HE2 := hid (HE.out.below hb2)
  clear hb2 c0 c1 c2 c3 c4 c5 c6 HE HB
  have c0 := HE2.out.cell 0 rfl
  have c1 := HE2.out.cell 1 rfl
  have c2 := HE2.out.cell 2 rfl
  have c3 := HE2.out.cell 3 rfl
  have c4 := HE2.out.cell 4 rfl
  have c5 := HE2.out.cell 5 rfl
  have c6 := HE2.out.cell 6 rfl
  go_wp2_with fail
  refine (HSR.out _).mono ?_
  rintro e' w3 ⟨rfl, hb3⟩
  have HB3 := hid (ext_trans HB2.out hb3)
  have HE3 := hid (HE2.out.below hb3)
  clear hb3 c0 c1 c2 c3 c4 c5 c6 HE2 HB2
  go_wp2_with fail
  refine (HK.out _ HB3.out).mono ?_
  rintro e' w4 ⟨rfl, rfl⟩
  go_wp2_with fail
  refine (HKR.out _ HB3.out).mono ?_
  rintro e' w4 ⟨rfl, rfl⟩
  clear j1 j2 j3
  go_wp2_with fail
  apply wp_region_vals' [.agg #[.int .u8 kind, .int .i64 th, .int .i64 tx, .int .i64 at_, .int .i64 v, .int .i64 x, .int .u8 why], .int .i64 T, .int .i64 V, .int .i64 S, .bool m, .agg #[.int .u8 kind, .int .i64 th, .int .i64 tx, .int .i64 at_, .int .i64 v, .int .i64 x, .int .u8 why], .int .i64 T, .int .i64 V, .int .i64 S, .bool m, .bool true, .bool true, .int .i64 s, .int .i64 s, .bool true, .bool true, .bool true, .bool is, .bool is, .bool true, .bool true, .bool true, .int .u8 k0, .int .u8 k0, .bool true, .bool true, .bool true, .bool ks, .bool ks, .bool true, .bool true, .bool true, .int .u8 kd, .string ⟨nm.toArray⟩, .int .u8 kd, .string ⟨nm.toArray⟩, .bool true, .bool true, .bool true, .bool true, .bool true, .bool true] (fun w' => Below w3.heap.size w3 w')
  focus (simp [putAll, dstOf, Act.put, List.getD]; rfl)
  case hm => kernel_rfl
  case hd => kernel_rfl
  case hb => kernel_rfl
  case hdep => kernel_rfl
  case hsel => kernel_rfl
  case hsz => kernel_rfl
  case h0 => exact ext_drew (ext_refl _)
  case hstep =>
    repeat' (first | exact trivial | (refine And.intro ?_ ?_))
    all_goals (
      intro w' hG
      rw [if_pos (by kernel_rfl)]
      intro K Qp hK
      have HH := hid (HE3.out.below hG)
      have d0 := HH.out.cell 0 rfl
      have d1 := HH.out.cell 1 rfl
      have d2 := HH.out.cell 2 rfl
      have d3 := HH.out.cell 3 rfl
      have d4 := HH.out.cell 4 rfl
      have d5 := HH.out.cell 5 rfl
      have d6 := HH.out.cell 6 rfl
      have HGG := hid hG
      have HG2 := hid (ext_trans HB3.out hG)
      clear hG
      go_simp
      first
      | exact hK _ HGG.out
      | ((first | (with_reducible refine (HM.out _ HG2.out).mono ?_) | (with_reducible refine (HMR.out _ HG2.out).mono ?_) | (with_reducible refine (HA.out _ HG2.out).mono ?_))
         rintro e' w8 ⟨rfl, hb8⟩
         exact hK _ (ext_trans HGG.out hb8))
      | ((first | (with_reducible refine (HN.out _ HG2.out).mono ?_) | (with_reducible refine (HNR.out _ HG2.out).mono ?_))
         rintro e' w8 ⟨rfl, rfl⟩
         exact hK _ HGG.out)
      | (go_wp2_with fail
         exact hK _ HGG.out))
  case hdone =>
    intro w' hG
    have HZ := hid (ext_trans HB3.out hG)
    clear hG
    go_wp2_with fail
    go_ret
    exact ⟨rfl, HZ.out⟩
end Go.Proofs.YtlbpollckiidlaaDoor
