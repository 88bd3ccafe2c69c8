/-
 Walk of the document's checker: May at the Kinds 10. (Printed: tools/gen_may.py.)
-/
import Derived.Test.YtcddlnmcjmhbcaaDoorRgH
namespace Go.Proofs.YtcddlnmcjmhbcaaDoor
set_option linter.unusedVariables false
set_option linter.unusedSimpArgs false
set_option linter.unusedVariables false
open Go Go.RowKit
set_option maxRecDepth 100000 in
set_option maxHeartbeats 40000000 in
theorem may_C (a : Option Addr) (l : List Ev) (n cap : Nat) (kind th tx at_ v x why T V S : Int) (w : World) (G : MayG a l n cap ⟨kind, th, tx, at_, v, x, why⟩ T V S w) (hk : kind = 10) (hwy : 1 ≤ why ∧ why ≤ 6) :
  Calls Tryd.prog 24 #[.slice a n cap, evA ⟨kind, th, tx, at_, v, x, why⟩, .int .i64 T, .int .i64 V, .int .i64 S] w fun e' w' => e' = .returned (.bool (mayQ S l.reverse ⟨kind, th, tx, at_, v, x, why⟩ (mineV S th l.reverse))) ∧ Below w.heap.size w w' := by
 have HMAYE := hid G.mayE
 have HMI := hid G.mine
 have HOW := hid G.owner
 have HVER := hid G.ver
 have HCLK := hid G.clk
 have HCOM := hid G.com
 have HLEN := hid G.len
 have HGOOD := hid G.good
 have HNN := hid G.n
 have HS := hid G.s
 have HAT := hid G.at0
 have HST := hid G.st
 clear G
 have n1 : (kind == 1) = false := by rw [beq_eq_false_iff_ne]; omega
 have HKD := hid hk
 clear hk
 have HWY := hid hwy
 clear hwy
 unfold evA
 dsimp only at HMAYE HMI HAT HST ⊢
 go_enter Tryd.func24, Tryd.ntmps24
 have hq := Blk.new w #[.int .u8 kind, .int .i64 th, .int .i64 tx, .int .i64 at_, .int .i64 v, .int .i64 x, .int .u8 why] 49
 have e0 := hq.cell 0 (v := .int .u8 kind) rfl
 have e1 := hq.cell 1 (v := .int .i64 th) rfl
 have e2 := hq.cell 2 (v := .int .i64 tx) rfl
 have e3 := hq.cell 3 (v := .int .i64 at_) rfl
 have e4 := hq.cell 4 (v := .int .i64 v) rfl
 have e5 := hq.cell 5 (v := .int .i64 x) rfl
 have e6 := hq.cell 6 (v := .int .u8 why) rfl
 have HE0 := hid hq
 clear hq
 go_wp2_with fail
 refine (HMAYE.out _ (ext_alloc (ext_refl _) _)).mono ?_
 rintro e' w1 ⟨rfl, hb1⟩
 have HB1 := hid (ext_trans (ext_alloc (ext_refl w) (.cells #[.int .u8 kind, .int .i64 th, .int .i64 tx, .int .i64 at_, .int .i64 v, .int .i64 x, .int .u8 why] 49)) hb1)
 have HE1 := hid (HE0.out.below hb1)
 clear hb1 e0 e1 e2 e3 e4 e5 e6 HE0
 have e1 := HE1.out.cell 1 (v := .int .i64 th) rfl
 go_wp2_with fail
 refine (HMI.out _ HB1.out).mono ?_
 rintro e' w2 ⟨vL, vr, vl, vf, vs, rfl, hb2, hr2⟩
 obtain ⟨pL, cL, pr, cr, pl, cl, pf, cf, ps, cs, rfl, rfl, rfl, rfl, rfl⟩ := hr2.shape
 have HLN := hid (mine_len S th l.reverse)
 generalize hA : mineV S th l.reverse = A at *
 have HAE := hid hA
 clear hA
 have HE2 := hid ((HE1.out.below hb2).alloc (.cells (AtV A (.slice pL A.L.length cL) (.slice pr A.read.length cr) (.slice pl A.locked.length cl) (.slice pf A.freed.length cf) (.slice ps A.stored.length cs)) 95))
 have HB2 := hid (ext_alloc (ext_trans HB1.out hb2) (.cells (AtV A (.slice pL A.L.length cL) (.slice pr A.read.length cr) (.slice pl A.locked.length cl) (.slice pf A.freed.length cf) (.slice ps A.stored.length cs)) 95))
 have HR2 := hid (hr2.below (ext_alloc (ext_refl _) (.cells (AtV A (.slice pL A.L.length cL) (.slice pr A.read.length cr) (.slice pl A.locked.length cl) (.slice pf A.freed.length cf) (.slice ps A.stored.length cs)) 95)))
 have hk := Blk.new w2 (AtV A (.slice pL A.L.length cL) (.slice pr A.read.length cr) (.slice pl A.locked.length cl) (.slice pf A.freed.length cf) (.slice ps A.stored.length cs)) 95
 have HK2 := hid hk
 have HEA := hid (show w.heap.size < w2.heap.size from by have := hb2.size; have := HB1.out.size; have := (HE1.out).lt; omega)
 have k0 := hk.cell 0 (v := .slice pL A.L.length cL) rfl
 have k1 := hk.cell 1 (v := .int .i64 A.rv) rfl
 have k2 := hk.cell 2 (v := .int .i64 A.wv) rfl
 have k3 := hk.cell 3 (v := .slice pr A.read.length cr) rfl
 have k4 := hk.cell 4 (v := .slice pl A.locked.length cl) rfl
 have k5 := hk.cell 5 (v := .slice pf A.freed.length cf) rfl
 have k6 := hk.cell 6 (v := .int .i64 (A.checked : Int)) rfl
 have k7 := hk.cell 7 (v := .slice ps A.stored.length cs) rfl
 have k8 := hk.cell 8 (v := .int .u8 A.why) rfl
 have k9 := hk.cell 9 (v := .int .u8 A.last) rfl
 have e0 := HE2.out.cell 0 (v := .int .u8 kind) rfl
 clear hk hb2 hr2 HB1 HE1 e1
 unfold AtV at *
 go_wp2_with fail
 refine (over_any A pL pr pl pf ps cL cr cl cf cs _).mono ?_
 rintro e' w3 ⟨rfl, hb3⟩
 have HE := hid (HE2.out.below hb3)
 have HK := hid (HK2.out.below hb3)
 have HR := hid (HR2.out.below hb3)
 have HB := hid (ext_trans HB2.out hb3)
 clear hb3 HE2 HK2 HR2 HB2 k0 k1 k2 k3 k4 k5 k6 k7 k8 k9 e0
 cases ho : overA A
 case true =>
  have HQ : Hid (mayQ S l.reverse ⟨kind, th, tx, at_, v, x, why⟩ (mineV S th l.reverse) = false) := hid (by rw [HAE.out]; unfold mayQ; rw [if_neg (by simpa using n1), if_pos ho])
  clear ho
  go_wp2_with fail
  go_ret
  exact ⟨by rw [HQ.out]; try rfl, HB.out⟩
 have HQ : Hid (mayQ S l.reverse ⟨kind, th, tx, at_, v, x, why⟩ (mineV S th l.reverse) = mayK S l.reverse ⟨kind, th, tx, at_, v, x, why⟩ A) := hid (by rw [HAE.out]; unfold mayQ; rw [if_neg (by simpa using n1), if_neg (by rw [ho]; simp)])
 have HGA := hid (HGOOD.out ho)
 clear ho
 have e0 := HE.out.cell 0 (v := .int .u8 kind) rfl
 have e1 := HE.out.cell 1 (v := .int .i64 th) rfl
 have e3 := HE.out.cell 3 (v := .int .i64 at_) rfl
 have k9 := HK.out.cell 9 (v := .int .u8 A.last) rfl
 go_upto_region 8 with (fail)
 obtain ⟨ra, hra⟩ : ∃ q : Bool, ((A.last == 1)) = q := ⟨_, rfl⟩
 have HRA := hid hra
 obtain ⟨rb, hrb⟩ : ∃ q : Bool, ((A.last == 3)) = q := ⟨_, rfl⟩
 have HRB := hid hrb
 obtain ⟨rd, hrd⟩ : ∃ p : Bool, p = (ra || rb) := ⟨_, rfl⟩
 have HRD := hid hrd
 have HFRD : Hid ((A.last == 1 || A.last == 3) = rd) := hid (by rw [hrd, ← hra, ← hrb])
 clear hra hrb hrd
 apply wp_region_knownL (fun qq => ([(.pointer (some ⟨w2.heap.size, 9, none⟩)), (.int .u8 A.last), (.bool ra), (.bool ra), (WF ra (.pointer (some ⟨w2.heap.size, 9, none⟩))), (WF ra (.int .u8 A.last)), (WF ra (.bool rb)), (.bool rd), (.bool rd)] : List Value).getD qq undef) (fun w' => Below w3.heap.size w3 w')
 focus (simp [putAll, dstOf, Act.put, List.getD]; rfl)
 case hd => kernel_rfl
 case hb => kernel_rfl
 case hng => kernel_rfl
 case hsz => kernel_rfl
 case h0 => exact ext_refl _
 case hstep =>
  refine ⟨?_, ?_, ?_, ?_, ?_, ?_, ?_, ?_, ?_, trivial⟩
  refine skU rfl fun w' hG ρ h1 h2 h3 h4 h5 => ?_; have f11 : ρ (.tmp 11) = .pointer (some ⟨w2.heap.size, 0, none⟩) := h5 11 rfl; rotate_left
  refine skU rfl fun w' hG ρ h1 h2 h3 h4 h5 => ?_; have f65 : ρ (.tmp 65) = (.pointer (some ⟨w2.heap.size, 9, none⟩)) := h4 0 65 rfl rfl; have c := (HK.out.below hG.out).cell 9 (v := .int .u8 A.last) rfl; rotate_left
  ·refine skU rfl fun w' hG ρ h1 h2 h3 h4 h5 => ?_; have f66 : ρ (.tmp 66) = (.int .u8 A.last) := h4 1 66 rfl rfl; clear h4 h5; unfold OpY; go_simp; exact ⟨congrArg Value.bool HRA.out, hG.out⟩
  refine skU rfl fun w' hG ρ h1 h2 h3 h4 h5 => ?_; have f67 : ρ (.tmp 67) = (.bool ra) := h4 2 67 rfl rfl; rotate_left
  refine skF (s := ra) (x := (.pointer (some ⟨w2.heap.size, 9, none⟩))) rfl rfl rfl fun hs w' hG ρ h1 h2 h3 h4 h5 => ?_; subst hs; have f11 : ρ (.tmp 11) = .pointer (some ⟨w2.heap.size, 0, none⟩) := h5 11 rfl; rotate_left
  refine skF (s := ra) (x := (.int .u8 A.last)) rfl rfl rfl fun hs w' hG ρ h1 h2 h3 h4 h5 => ?_; subst hs; have f69 : ρ (.tmp 69) = (.pointer (some ⟨w2.heap.size, 9, none⟩)) := h4 4 69 rfl rfl; have c := (HK.out.below hG.out).cell 9 (v := .int .u8 A.last) rfl; rotate_left
  ·refine skF (s := ra) (x := (.bool rb)) rfl rfl rfl fun hs w' hG ρ h1 h2 h3 h4 h5 => ?_; subst hs; have f70 : ρ (.tmp 70) = (.int .u8 A.last) := h4 5 70 rfl rfl; clear h4 h5; unfold OpY; go_simp; exact ⟨congrArg Value.bool HRB.out, hG.out⟩
  ·refine skU rfl fun w' hG ρ h1 h2 h3 h4 h5 => ?_; have f68 : ρ (.tmp 68) = (.bool ra) := h4 3 68 rfl rfl; have f71 : ρ (.tmp 71) = (WF ra (.bool rb)) := h4 6 71 rfl rfl; have e5 := HRD.out; cases ra <;> simp only [Bool.false_and, Bool.true_and, Bool.true_or, Bool.false_or] at e5 <;> subst e5; all_goals (try dsimp only [WF, WT] at *; clear h4 h5; unfold OpY; go_simp; exact ⟨rfl, hG.out⟩)
  refine skU rfl fun w' hG ρ h1 h2 h3 h4 h5 => ?_; have f72 : ρ (.tmp 72) = (.bool rd) := h4 7 72 rfl rfl; rotate_left
  all_goals (clear h4 h5; unfold OpY; go_simp; exact ⟨rfl, hG.out⟩)
 case hdone =>
 intro w31 hG
 have HEx := hid (HE.out.below hG)
 have HKx := hid (HK.out.below hG)
 have HRx := hid (HR.out.below hG)
 have HBx := hid (ext_trans HB.out hG)
 clear hG HE HK HR HB e0 e1 e3 k9 HRA HRB HRD
 have HE := HEx
 have HK := HKx
 have HR := HRx
 have HB := HBx
 clear HEx HKx HRx HBx
 have e0 := HE.out.cell 0 (v := .int .u8 kind) rfl
 have e1 := HE.out.cell 1 (v := .int .i64 th) rfl
 have e3 := HE.out.cell 3 (v := .int .i64 at_) rfl
 have k9 := HK.out.cell 9 (v := .int .u8 A.last) rfl
 go_upto_region 9 with (fail)
 obtain ⟨ca, hca⟩ : ∃ q : Bool, ((A.last == 5)) = q := ⟨_, rfl⟩
 have HCA := hid hca
 obtain ⟨cb, hcb⟩ : ∃ q : Bool, ((A.last == 6)) = q := ⟨_, rfl⟩
 have HCB := hid hcb
 obtain ⟨ck, hck⟩ : ∃ p : Bool, p = (ca || cb) := ⟨_, rfl⟩
 have HCK := hid hck
 have HFCK : Hid ((A.last == 5 || A.last == 6) = ck) := hid (by rw [hck, ← hca, ← hcb])
 clear hca hcb hck
 apply wp_region_knownL (fun qq => ([(.pointer (some ⟨w2.heap.size, 9, none⟩)), (.int .u8 A.last), (.bool ca), (.bool ca), (WF ca (.pointer (some ⟨w2.heap.size, 9, none⟩))), (WF ca (.int .u8 A.last)), (WF ca (.bool cb)), (.bool ck), (.bool ck)] : List Value).getD qq undef) (fun w' => Below w31.heap.size w31 w')
 focus (simp [putAll, dstOf, Act.put, List.getD]; rfl)
 case hd => kernel_rfl
 case hb => kernel_rfl
 case hng => kernel_rfl
 case hsz => kernel_rfl
 case h0 => exact ext_refl _
 case hstep =>
  refine ⟨?_, ?_, ?_, ?_, ?_, ?_, ?_, ?_, ?_, trivial⟩
  refine skU rfl fun w' hG ρ h1 h2 h3 h4 h5 => ?_; have f11 : ρ (.tmp 11) = .pointer (some ⟨w2.heap.size, 0, none⟩) := h5 11 rfl; rotate_left
  refine skU rfl fun w' hG ρ h1 h2 h3 h4 h5 => ?_; have f73 : ρ (.tmp 73) = (.pointer (some ⟨w2.heap.size, 9, none⟩)) := h4 0 73 rfl rfl; have c := (HK.out.below hG.out).cell 9 (v := .int .u8 A.last) rfl; rotate_left
  ·refine skU rfl fun w' hG ρ h1 h2 h3 h4 h5 => ?_; have f74 : ρ (.tmp 74) = (.int .u8 A.last) := h4 1 74 rfl rfl; clear h4 h5; unfold OpY; go_simp; exact ⟨congrArg Value.bool HCA.out, hG.out⟩
  refine skU rfl fun w' hG ρ h1 h2 h3 h4 h5 => ?_; have f75 : ρ (.tmp 75) = (.bool ca) := h4 2 75 rfl rfl; rotate_left
  refine skF (s := ca) (x := (.pointer (some ⟨w2.heap.size, 9, none⟩))) rfl rfl rfl fun hs w' hG ρ h1 h2 h3 h4 h5 => ?_; subst hs; have f11 : ρ (.tmp 11) = .pointer (some ⟨w2.heap.size, 0, none⟩) := h5 11 rfl; rotate_left
  refine skF (s := ca) (x := (.int .u8 A.last)) rfl rfl rfl fun hs w' hG ρ h1 h2 h3 h4 h5 => ?_; subst hs; have f77 : ρ (.tmp 77) = (.pointer (some ⟨w2.heap.size, 9, none⟩)) := h4 4 77 rfl rfl; have c := (HK.out.below hG.out).cell 9 (v := .int .u8 A.last) rfl; rotate_left
  ·refine skF (s := ca) (x := (.bool cb)) rfl rfl rfl fun hs w' hG ρ h1 h2 h3 h4 h5 => ?_; subst hs; have f78 : ρ (.tmp 78) = (.int .u8 A.last) := h4 5 78 rfl rfl; clear h4 h5; unfold OpY; go_simp; exact ⟨congrArg Value.bool HCB.out, hG.out⟩
  ·refine skU rfl fun w' hG ρ h1 h2 h3 h4 h5 => ?_; have f76 : ρ (.tmp 76) = (.bool ca) := h4 3 76 rfl rfl; have f79 : ρ (.tmp 79) = (WF ca (.bool cb)) := h4 6 79 rfl rfl; have e5 := HCK.out; cases ca <;> simp only [Bool.false_and, Bool.true_and, Bool.true_or, Bool.false_or] at e5 <;> subst e5; all_goals (try dsimp only [WF, WT] at *; clear h4 h5; unfold OpY; go_simp; exact ⟨rfl, hG.out⟩)
  refine skU rfl fun w' hG ρ h1 h2 h3 h4 h5 => ?_; have f80 : ρ (.tmp 80) = (.bool ck) := h4 7 80 rfl rfl; rotate_left
  all_goals (clear h4 h5; unfold OpY; go_simp; exact ⟨rfl, hG.out⟩)
 case hdone =>
 intro w32 hG
 have HEx := hid (HE.out.below hG)
 have HKx := hid (HK.out.below hG)
 have HRx := hid (HR.out.below hG)
 have HBx := hid (ext_trans HB.out hG)
 clear hG HE HK HR HB e0 e1 e3 k9 HCA HCB HCK
 have HE := HEx
 have HK := HKx
 have HR := HRx
 have HB := HBx
 clear HEx HKx HRx HBx
 have e0 := HE.out.cell 0 (v := .int .u8 kind) rfl
 have e1 := HE.out.cell 1 (v := .int .i64 th) rfl
 have e3 := HE.out.cell 3 (v := .int .i64 at_) rfl
 have k9 := HK.out.cell 9 (v := .int .u8 A.last) rfl
 go_wp2_with fail
 refine (HOW.out _ HB.out at_).mono ?_
 rintro e' w33 ⟨rfl, hG⟩
 have HEx := hid (HE.out.below hG)
 have HKx := hid (HK.out.below hG)
 have HRx := hid (HR.out.below hG)
 have HBx := hid (ext_trans HB.out hG)
 clear hG HE HK HR HB e0 e1 e3 k9
 have HE := HEx
 have HK := HKx
 have HR := HRx
 have HB := HBx
 clear HEx HKx HRx HBx
 have e0 := HE.out.cell 0 (v := .int .u8 kind) rfl
 have e1 := HE.out.cell 1 (v := .int .i64 th) rfl
 have e3 := HE.out.cell 3 (v := .int .i64 at_) rfl
 have k9 := HK.out.cell 9 (v := .int .u8 A.last) rfl
 go_upto_region 11 with (fail)
 obtain ⟨oa, hoa⟩ : ∃ q : Bool, (decide (0 ≤ (ownV l.reverse at_))) = q := ⟨_, rfl⟩
 have HOA := hid hoa
 obtain ⟨ob, hob⟩ : ∃ q : Bool, (((ownV l.reverse at_) != th)) = q := ⟨_, rfl⟩
 have HOB := hid hob
 obtain ⟨ot, hot⟩ : ∃ p : Bool, p = (oa && ob) := ⟨_, rfl⟩
 have HOT := hid hot
 have HFOT : Hid ((decide (0 ≤ ownV l.reverse at_) && (ownV l.reverse at_ != th)) = ot) := hid (by rw [hot, ← hoa, ← hob])
 clear hoa hob hot
 apply wp_region_knownL (fun qq => ([(.int .i64 (ownV l.reverse at_)), (.bool oa), (.bool oa), (WT oa (.int .i64 (ownV l.reverse at_))), (WT oa (.pointer (some ⟨w.heap.size, 1, none⟩))), (WT oa (.int .i64 th)), (WT oa (.bool ob)), (.bool ot), (.bool ot)] : List Value).getD qq undef) (fun w' => Below w33.heap.size w33 w')
 focus (simp [putAll, dstOf, Act.put, List.getD]; rfl)
 case hd => kernel_rfl
 case hb => kernel_rfl
 case hng => kernel_rfl
 case hsz => kernel_rfl
 case h0 => exact ext_refl _
 case hstep =>
  refine ⟨?_, ?_, ?_, ?_, ?_, ?_, ?_, ?_, ?_, trivial⟩
  refine skU rfl fun w' hG ρ h1 h2 h3 h4 h5 => ?_; have f14 : ρ (.tmp 14) = .int .i64 (ownV l.reverse at_) := h5 14 rfl; rotate_left
  ·refine skU rfl fun w' hG ρ h1 h2 h3 h4 h5 => ?_; have f85 : ρ (.tmp 85) = (.int .i64 (ownV l.reverse at_)) := h4 0 85 rfl rfl; clear h4 h5; unfold OpY; go_simp; exact ⟨congrArg Value.bool HOA.out, hG.out⟩
  refine skU rfl fun w' hG ρ h1 h2 h3 h4 h5 => ?_; have f86 : ρ (.tmp 86) = (.bool oa) := h4 1 86 rfl rfl; rotate_left
  refine skT (s := oa) (x := (.int .i64 (ownV l.reverse at_))) rfl rfl rfl fun hs w' hG ρ h1 h2 h3 h4 h5 => ?_; subst hs; have f14 : ρ (.tmp 14) = .int .i64 (ownV l.reverse at_) := h5 14 rfl; rotate_left
  refine skT (s := oa) (x := (.pointer (some ⟨w.heap.size, 1, none⟩))) rfl rfl rfl fun hs w' hG ρ h1 h2 h3 h4 h5 => ?_; subst hs; have f6 : ρ (.tmp 6) = .pointer (some ⟨w.heap.size, 0, none⟩) := h5 6 rfl; rotate_left
  refine skT (s := oa) (x := (.int .i64 th)) rfl rfl rfl fun hs w' hG ρ h1 h2 h3 h4 h5 => ?_; subst hs; have f89 : ρ (.tmp 89) = (.pointer (some ⟨w.heap.size, 1, none⟩)) := h4 4 89 rfl rfl; have c := (HE.out.below hG.out).cell 1 (v := .int .i64 th) rfl; rotate_left
  ·refine skT (s := oa) (x := (.bool ob)) rfl rfl rfl fun hs w' hG ρ h1 h2 h3 h4 h5 => ?_; subst hs; have f88 : ρ (.tmp 88) = (.int .i64 (ownV l.reverse at_)) := h4 3 88 rfl rfl; have f90 : ρ (.tmp 90) = (.int .i64 th) := h4 5 90 rfl rfl; clear h4 h5; unfold OpY; go_simp; exact ⟨congrArg Value.bool HOB.out, hG.out⟩
  ·refine skU rfl fun w' hG ρ h1 h2 h3 h4 h5 => ?_; have f87 : ρ (.tmp 87) = (.bool oa) := h4 2 87 rfl rfl; have f91 : ρ (.tmp 91) = (WT oa (.bool ob)) := h4 6 91 rfl rfl; have e5 := HOT.out; cases oa <;> simp only [Bool.false_and, Bool.true_and, Bool.true_or, Bool.false_or] at e5 <;> subst e5; all_goals (try dsimp only [WF, WT] at *; clear h4 h5; unfold OpY; go_simp; exact ⟨rfl, hG.out⟩)
  refine skU rfl fun w' hG ρ h1 h2 h3 h4 h5 => ?_; have f92 : ρ (.tmp 92) = (.bool ot) := h4 7 92 rfl rfl; rotate_left
  all_goals (clear h4 h5; unfold OpY; go_simp; exact ⟨rfl, hG.out⟩)
 case hdone =>
 intro w4 hG
 have HEx := hid (HE.out.below hG)
 have HKx := hid (HK.out.below hG)
 have HRx := hid (HR.out.below hG)
 have HBx := hid (ext_trans HB.out hG)
 clear hG HE HK HR HB e0 e1 e3 k9 HOA HOB HOT
 have HE := HEx
 have HK := HKx
 have HR := HRx
 have HB := HBx
 clear HEx HKx HRx HBx
 have HE4 := HE
 have HK4 := HK
 have HR4 := HR
 have HB4 := HB
 clear HE HK HR HB
 have HRD := HFRD
 have HCK := HFCK
 have HOT := HFOT
 clear HFRD HFCK HFOT
 have e0 := HE4.out.cell 0 (v := .int .u8 kind) rfl
 have e1 := HE4.out.cell 1 (v := .int .i64 th) rfl
 go_upto_block 0 with (fail)
 clear e0 n1
 obtain rfl := HKD.out
 go_wp2_with fail
 obtain ⟨nw, hnw⟩ : ∃ q : Bool, (decide (A.rv < (verV l.reverse at_))) = q := ⟨_, rfl⟩
 have HNW := hid hnw
 clear hnw
 apply wp_region_known (fun qq => ([(.slice a n cap), (.pointer (some ⟨w.heap.size, 3, none⟩)), (.int .i64 at_), (.int .i64 (verV l.reverse at_)), (.pointer (some ⟨w2.heap.size, 1, none⟩)), (.int .i64 A.rv), (.bool nw), (.bool nw)] : List Value).getD qq undef) (fun w' => Below w4.heap.size w4 w')
 focus (simp [putAll, dstOf, Act.put, List.getD]; rfl)
 case hm => kernel_rfl
 case hd => kernel_rfl
 case hb => kernel_rfl
 case hng => kernel_rfl
 case hsz => kernel_rfl
 case h0 => exact ext_drew (ext_refl _)
 case hstep =>
  refine ⟨?_, ?_, ?_, ?_, ?_, ?_, ?_, ?_, trivial⟩
  refine skU rfl fun w' hG ρ h1 h2 h3 h4 h5 => ?_; have f0 : ρ (.tmp 0) = .slice a n cap := h5 0 rfl; rotate_left
  refine skU rfl fun w' hG ρ h1 h2 h3 h4 h5 => ?_; have f6 : ρ (.tmp 6) = .pointer (some ⟨w.heap.size, 0, none⟩) := h5 6 rfl; rotate_left
  refine skU rfl fun w' hG ρ h1 h2 h3 h4 h5 => ?_; have f373 : ρ (.tmp 373) = (.pointer (some ⟨w.heap.size, 3, none⟩)) := h4 1 373 rfl rfl; have c := (HE4.out.below hG.out).cell 3 (v := .int .i64 at_) rfl; rotate_left
  ·refine skU rfl fun w' hG ρ h1 h2 h3 h4 h5 => ?_; have f372 : ρ (.tmp 372) = (.slice a n cap) := h4 0 372 rfl rfl; have f374 : ρ (.tmp 374) = (.int .i64 at_) := h4 2 374 rfl rfl; clear h4 h5; unfold OpY; go_simp; unfold OpR; refine (HVER.out _ (ext_trans HB4.out hG.out) at_).mono ?_; rintro e' w1 ⟨rfl, hb⟩; exact ⟨_, rfl, rfl, ext_trans hG.out hb⟩
  refine skU rfl fun w' hG ρ h1 h2 h3 h4 h5 => ?_; have f11 : ρ (.tmp 11) = .pointer (some ⟨w2.heap.size, 0, none⟩) := h5 11 rfl; rotate_left
  refine skU rfl fun w' hG ρ h1 h2 h3 h4 h5 => ?_; have f376 : ρ (.tmp 376) = (.pointer (some ⟨w2.heap.size, 1, none⟩)) := h4 4 376 rfl rfl; have c := (HK4.out.below hG.out).cell 1 (v := .int .i64 A.rv) rfl; rotate_left
  ·refine skU rfl fun w' hG ρ h1 h2 h3 h4 h5 => ?_; have f375 : ρ (.tmp 375) = (.int .i64 (verV l.reverse at_)) := h4 3 375 rfl rfl; have f377 : ρ (.tmp 377) = (.int .i64 A.rv) := h4 5 377 rfl rfl; clear h4 h5; unfold OpY; go_simp; exact ⟨congrArg Value.bool HNW.out, hG.out⟩
  refine skU rfl fun w' hG ρ h1 h2 h3 h4 h5 => ?_; have f378 : ρ (.tmp 378) = (.bool nw) := h4 6 378 rfl rfl; rotate_left
  all_goals (clear h4 h5; unfold OpY; go_simp; exact ⟨rfl, hG.out⟩)
 case hdone =>
  intro w5 hG
  have HE5 := hid (HE4.out.below hG)
  have HK5 := hid (HK4.out.below hG)
  have HB5 := hid (ext_trans HB4.out hG)
  have HR5 := hid (HR4.out.below hG)
  clear hG e1 HE4 HK4 HB4 HR4
  have HE4 := HE5
  have HK4 := HK5
  have HB4 := HB5
  have HR4 := HR5
  clear HE5 HK5 HB5 HR5
  have e6 := HE4.out.cell 6 (v := .int .u8 why) rfl
  rcases whys6 HWY.out with rfl | rfl | rfl | rfl | rfl | rfl
  ·skip
   have HMK : Hid (mayK S l.reverse ⟨10, th, tx, at_, v, x, 1⟩ A = abortR l.reverse ⟨10, th, tx, at_, v, x, 1⟩ A) := hid (by unfold mayK; simp)
   have HR5 : Hid (abortR l.reverse ⟨10, th, tx, at_, v, x, 1⟩ A = (rd && ot)) := hid (by unfold abortR readsA otherR; (try simp only [← HRD.out, ← HCK.out, ← HOT.out, ← HNW.out]); rw [Bool.eq_iff_iff]; simp; all_goals (try (intros; omega)))
   cases rd <;> (go_wp2_with fail; all_goals (go_ret; exact ⟨by rw [HQ.out, HMK.out, HR5.out]; try rfl, HB4.out⟩))
  ·skip
   have HMK : Hid (mayK S l.reverse ⟨10, th, tx, at_, v, x, 2⟩ A = abortR l.reverse ⟨10, th, tx, at_, v, x, 2⟩ A) := hid (by unfold mayK; simp)
   have HR5 : Hid (abortR l.reverse ⟨10, th, tx, at_, v, x, 2⟩ A = (rd && decide (ownV l.reverse at_ < 0) && nw)) := hid (by unfold abortR readsA; (try simp only [← HRD.out, ← HCK.out, ← HOT.out, ← HNW.out]); rw [Bool.eq_iff_iff]; simp; all_goals (try (intros; omega)))
   rcases own2 (ownV l.reverse at_) with ⟨jo, jo2⟩ | ⟨jo, jo2⟩ <;> cases rd <;> (go_wp2_with fail; all_goals (go_ret; exact ⟨by rw [HQ.out, HMK.out, HR5.out, jo2]; try rfl, HB4.out⟩))
  ·skip
   have HMK : Hid (mayK S l.reverse ⟨10, th, tx, at_, v, x, 3⟩ A = abortR l.reverse ⟨10, th, tx, at_, v, x, 3⟩ A) := hid (by unfold mayK; simp)
   obtain ⟨M, q, hML⟩ : ∃ M q, A.L = M ++ [q] := by rcases List.eq_nil_or_concat A.L with h | ⟨M, q, h⟩; exact absurd h HGA.out.1; exact ⟨M, q, by rw [h, List.concat_eq_append]⟩
   obtain ⟨gL, rfl⟩ := row_addr HR4.out.rL (by rw [hML]; simp)
   have HLK := hid (look_snoc A M q hML)
   have HLC : Hid (∀ j u, (evL q)[j]? = some u → w5.cell? ⟨gL, M.length * 7 + j, none⟩ = some u) := hid (fun j u hu => by have h := HR4.out.rL; rw [hML] at h; exact last_cells h j u hu)
   have hNL : A.L.length = M.length + 1 := by rw [hML]; simp
   have HML : Hid (M.length + 1 ≤ 1048576) := hid (by have := (show A.L.length ≤ 1048576 from by have h1 := HLN.out.L; rw [List.length_reverse] at h1; have := HLEN.out; omega); omega)
   have HNL := hid hNL
   clear hML hNL
   obtain ⟨qk, qth, qtx, qat, qv, qx, qwhy⟩ := q
   have r0 : w5.cell? ⟨gL, M.length * 7, none⟩ = some (.int .u8 qk) := HLC.out 0 _ rfl
   have r1 : w5.cell? ⟨gL, M.length * 7 + 1, none⟩ = some (.int .i64 qth) := HLC.out 1 _ rfl
   have r2 : w5.cell? ⟨gL, M.length * 7 + 2, none⟩ = some (.int .i64 qtx) := HLC.out 2 _ rfl
   have r3 : w5.cell? ⟨gL, M.length * 7 + 3, none⟩ = some (.int .i64 qat) := HLC.out 3 _ rfl
   have r4 : w5.cell? ⟨gL, M.length * 7 + 4, none⟩ = some (.int .i64 qv) := HLC.out 4 _ rfl
   have r5 : w5.cell? ⟨gL, M.length * 7 + 5, none⟩ = some (.int .i64 qx) := HLC.out 5 _ rfl
   have r6 : w5.cell? ⟨gL, M.length * 7 + 6, none⟩ = some (.int .u8 qwhy) := HLC.out 6 _ rfl
   have k0 := HK4.out.cell 0 (v := .slice (some ⟨gL, 0, none⟩) A.L.length cL) rfl
   obtain ⟨N, hN⟩ : ∃ N, N = A.L.length := ⟨_, rfl⟩
   have hN1 : N = M.length + 1 := by rw [hN]; exact HNL.out
   rw [← hN] at k0
   have i1 : IntKind.i64.wrap ((N : Int) - 1) = (M.length : Int) := by rw [IntWalk.i64_in _ (by have := HML.out; omega)]; omega
   have i2 : (0 : Int) ≤ (M.length : Int) := by omega
   have i3 : (M.length : Int) < (N : Int) := by omega
   have i4 : decide (M.length < N) = true := decide_eq_true (by omega)
   have i5 : (M.length : Int).toNat = M.length := by omega
   clear hN hN1
   go_wp2_with fail
   clear k0 e6 i1 i2 i3 i4 i5 r0 r1 r2 r3 r4 r5 r6
   have HL5 := hid (Blk.new w5 #[.int .u8 qk, .int .i64 qth, .int .i64 qtx, .int .i64 qat, .int .i64 qv, .int .i64 qx, .int .u8 qwhy] 49)
   have HE5 := hid (HE4.out.alloc (.cells #[.int .u8 qk, .int .i64 qth, .int .i64 qtx, .int .i64 qat, .int .i64 qv, .int .i64 qx, .int .u8 qwhy] 49))
   have HK5 := hid (HK4.out.alloc (.cells #[.int .u8 qk, .int .i64 qth, .int .i64 qtx, .int .i64 qat, .int .i64 qv, .int .i64 qx, .int .u8 qwhy] 49))
   have HB5 := hid (ext_alloc HB4.out (.cells #[.int .u8 qk, .int .i64 qth, .int .i64 qtx, .int .i64 qat, .int .i64 qv, .int .i64 qx, .int .u8 qwhy] 49))
   clear HE4 HK4 HB4 HR4 HLC
   have HE4 := HE5
   have HK4 := HK5
   have HB4 := HB5
   clear HE5 HK5 HB5
   obtain ⟨lb, hlb⟩ : ∃ lb, lb = w5.heap.size := ⟨_, rfl⟩
   obtain ⟨w6, hw5⟩ : ∃ wz, wz = w5.alloc (.cells #[.int .u8 qk, .int .i64 qth, .int .i64 qtx, .int .i64 qat, .int .i64 qv, .int .i64 qx, .int .u8 qwhy] 49) := ⟨_, rfl⟩
   rw [← hlb, ← hw5] at HL5
   rw [← hw5] at HE4 HK4 HB4
   rw [← hlb, ← hw5]
   clear hlb hw5
   have hlk := HLK.out
   by_cases l2 : A.last = 2
   ·have x1 : (A.last == 2) = true := by simpa using l2
    by_cases ha : qat = at_
    ·have ja : (qat == at_) = true := by simpa using ha
     by_cases hw : 0 ≤ ownV l.reverse at_
     ·have jo := decide_eq_true hw
      have HR5 : Hid (abortR l.reverse ⟨10, th, tx, at_, v, x, 3⟩ A = true) := hid (by unfold abortR; simp [hlk, ha, hw, l2])
      have k9 := HK4.out.cell 9 (v := .int .u8 A.last) rfl
      have e3 := HE4.out.cell 3 (v := .int .i64 at_) rfl
      have y3 := HL5.out.cell 3 (v := .int .i64 qat) rfl
      clear hlk ha hw l2
      skip
      go_quiet (fail)
      go_wp2_with fail
      all_goals (go_ret; exact ⟨by rw [HQ.out, HMK.out, HR5.out]; try rfl, ext_drewN HB4.out _⟩)
     ·have jo := decide_eq_false hw
      obtain ⟨q20, hq20⟩ : ∃ q : Bool, (((verV l.reverse at_) != qv)) = q := ⟨_, rfl⟩
      have HQ20 := hid hq20
      obtain ⟨p21, hp21⟩ : ∃ p : Bool, p = (false || q20) := ⟨_, rfl⟩
      have HP21 := hid hp21
      obtain ⟨p22, hp22⟩ : ∃ p : Bool, p = (true && p21) := ⟨_, rfl⟩
      have HP22 := hid hp22
      have HR5 : Hid (abortR l.reverse ⟨10, th, tx, at_, v, x, 3⟩ A = p22) := hid (by unfold abortR; rw [hp22, hp21]; simp only [← hq20]; rw [Bool.eq_iff_iff]; simp [l2, hlk, ha, hw])
      have JA := hid ja
      have JO := hid jo
      have X1 := hid x1
      clear hw hlk ha l2 ja jo x1 hp21 hp22 hq20
      apply wp_region_known (fun qq => ([(.pointer (some ⟨w2.heap.size, 9, none⟩)), (.int .u8 A.last), (.bool true), (.bool true), (WT true (.pointer (some ⟨lb, 3, none⟩))), (WT true (.int .i64 qat)), (WT true (.pointer (some ⟨w.heap.size, 3, none⟩))), (WT true (.int .i64 at_)), (WT true (.bool true)), (.bool true), (.bool true), (WT true (.int .i64 (ownV l.reverse at_))), (WT true (.bool false)), (WT true (.bool false)), (WF false (.slice a n cap)), (WF false (.pointer (some ⟨w.heap.size, 3, none⟩))), (WF false (.int .i64 at_)), (WF false (.int .i64 (verV l.reverse at_))), (WF false (.pointer (some ⟨lb, 4, none⟩))), (WF false (.int .i64 qv)), (WF false (.bool q20)), (WT true (.bool p21)), (.bool p22), (.bool p22)] : List Value).getD qq undef) (fun w' => Below w6.heap.size w6 w')
      focus (simp [putAll, dstOf, Act.put, List.getD]; rfl)
      case hm => kernel_rfl
      case hd => kernel_rfl
      case hb => kernel_rfl
      case hng => kernel_rfl
      case hsz => kernel_rfl
      case h0 => exact ext_drew (ext_refl _)
      case hstep =>
       refine ⟨?_, ?_, ?_, ?_, ?_, ?_, ?_, ?_, ?_, ?_, ?_, ?_, ?_, ?_, ?_, ?_, ?_, ?_, ?_, ?_, ?_, ?_, ?_, ?_, trivial⟩
       refine skU rfl fun w' hG ρ h1 h2 h3 h4 h5 => ?_; have f11 : ρ (.tmp 11) = .pointer (some ⟨w2.heap.size, 0, none⟩) := h5 11 rfl; rotate_left
       refine skU rfl fun w' hG ρ h1 h2 h3 h4 h5 => ?_; have f407 : ρ (.tmp 407) = (.pointer (some ⟨w2.heap.size, 9, none⟩)) := h4 0 407 rfl rfl; have c := (HK4.out.below hG.out).cell 9 (v := .int .u8 A.last) rfl; rotate_left
       refine skU rfl fun w' hG ρ h1 h2 h3 h4 h5 => ?_; have f408 : ρ (.tmp 408) = (.int .u8 A.last) := h4 1 408 rfl rfl; have y := X1.out; rotate_left
       refine skU rfl fun w' hG ρ h1 h2 h3 h4 h5 => ?_; have f409 : ρ (.tmp 409) = (.bool true) := h4 2 409 rfl rfl; rotate_left
       refine skT (s := true) (x := (.pointer (some ⟨lb, 3, none⟩))) rfl rfl rfl fun _ w' hG ρ h1 h2 h3 h4 h5 => ?_; have f23 : ρ (.tmp 23) = .pointer (some ⟨lb, 0, none⟩) := h5 23 rfl; rotate_left
       refine skT (s := true) (x := (.int .i64 qat)) rfl rfl rfl fun _ w' hG ρ h1 h2 h3 h4 h5 => ?_; have f411 : ρ (.tmp 411) = (.pointer (some ⟨lb, 3, none⟩)) := h4 4 411 rfl rfl; have c := (HL5.out.below hG.out).cell 3 (v := .int .i64 qat) rfl; rotate_left
       refine skT (s := true) (x := (.pointer (some ⟨w.heap.size, 3, none⟩))) rfl rfl rfl fun _ w' hG ρ h1 h2 h3 h4 h5 => ?_; have f6 : ρ (.tmp 6) = .pointer (some ⟨w.heap.size, 0, none⟩) := h5 6 rfl; rotate_left
       refine skT (s := true) (x := (.int .i64 at_)) rfl rfl rfl fun _ w' hG ρ h1 h2 h3 h4 h5 => ?_; have f413 : ρ (.tmp 413) = (.pointer (some ⟨w.heap.size, 3, none⟩)) := h4 6 413 rfl rfl; have c := (HE4.out.below hG.out).cell 3 (v := .int .i64 at_) rfl; rotate_left
       refine skT (s := true) (x := (.bool true)) rfl rfl rfl fun _ w' hG ρ h1 h2 h3 h4 h5 => ?_; have f412 : ρ (.tmp 412) = (.int .i64 qat) := h4 5 412 rfl rfl; have f414 : ρ (.tmp 414) = (.int .i64 at_) := h4 7 414 rfl rfl; have y := JA.out; rotate_left
       refine skU rfl fun w' hG ρ h1 h2 h3 h4 h5 => ?_; have f410 : ρ (.tmp 410) = (.bool true) := h4 3 410 rfl rfl; have f415 : ρ (.tmp 415) = (WT true (.bool true)) := h4 8 415 rfl rfl; try dsimp only [WF, WT] at *; rotate_left
       refine skU rfl fun w' hG ρ h1 h2 h3 h4 h5 => ?_; have f416 : ρ (.tmp 416) = (.bool true) := h4 9 416 rfl rfl; rotate_left
       refine skT (s := true) (x := (.int .i64 (ownV l.reverse at_))) rfl rfl rfl fun _ w' hG ρ h1 h2 h3 h4 h5 => ?_; have f14 : ρ (.tmp 14) = .int .i64 (ownV l.reverse at_) := h5 14 rfl; rotate_left
       refine skT (s := true) (x := (.bool false)) rfl rfl rfl fun _ w' hG ρ h1 h2 h3 h4 h5 => ?_; have f418 : ρ (.tmp 418) = (.int .i64 (ownV l.reverse at_)) := h4 11 418 rfl rfl; have y := JO.out; rotate_left
       refine skT (s := true) (x := (.bool false)) rfl rfl rfl fun _ w' hG ρ h1 h2 h3 h4 h5 => ?_; have f419 : ρ (.tmp 419) = (.bool false) := h4 12 419 rfl rfl; rotate_left
       refine skF (s := false) (x := (.slice a n cap)) rfl rfl rfl fun _ w' hG ρ h1 h2 h3 h4 h5 => ?_; have f0 : ρ (.tmp 0) = .slice a n cap := h5 0 rfl; rotate_left
       refine skF (s := false) (x := (.pointer (some ⟨w.heap.size, 3, none⟩))) rfl rfl rfl fun _ w' hG ρ h1 h2 h3 h4 h5 => ?_; have f6 : ρ (.tmp 6) = .pointer (some ⟨w.heap.size, 0, none⟩) := h5 6 rfl; rotate_left
       refine skF (s := false) (x := (.int .i64 at_)) rfl rfl rfl fun _ w' hG ρ h1 h2 h3 h4 h5 => ?_; have f422 : ρ (.tmp 422) = (.pointer (some ⟨w.heap.size, 3, none⟩)) := h4 15 422 rfl rfl; have c := (HE4.out.below hG.out).cell 3 (v := .int .i64 at_) rfl; rotate_left
       ·refine skF (s := false) (x := (.int .i64 (verV l.reverse at_))) rfl rfl rfl fun _ w' hG ρ h1 h2 h3 h4 h5 => ?_; have f421 : ρ (.tmp 421) = (.slice a n cap) := h4 14 421 rfl rfl; have f423 : ρ (.tmp 423) = (.int .i64 at_) := h4 16 423 rfl rfl; clear h4 h5; unfold OpY; go_simp; unfold OpR; refine (HVER.out _ (ext_trans HB4.out hG.out) at_).mono ?_; rintro e' w1 ⟨rfl, hb⟩; exact ⟨_, rfl, rfl, ext_trans hG.out hb⟩
       refine skF (s := false) (x := (.pointer (some ⟨lb, 4, none⟩))) rfl rfl rfl fun _ w' hG ρ h1 h2 h3 h4 h5 => ?_; have f23 : ρ (.tmp 23) = .pointer (some ⟨lb, 0, none⟩) := h5 23 rfl; rotate_left
       refine skF (s := false) (x := (.int .i64 qv)) rfl rfl rfl fun _ w' hG ρ h1 h2 h3 h4 h5 => ?_; have f425 : ρ (.tmp 425) = (.pointer (some ⟨lb, 4, none⟩)) := h4 18 425 rfl rfl; have c := (HL5.out.below hG.out).cell 4 (v := .int .i64 qv) rfl; rotate_left
       ·refine skF (s := false) (x := (.bool q20)) rfl rfl rfl fun _ w' hG ρ h1 h2 h3 h4 h5 => ?_; have f424 : ρ (.tmp 424) = (.int .i64 (verV l.reverse at_)) := h4 17 424 rfl rfl; have f426 : ρ (.tmp 426) = (.int .i64 qv) := h4 19 426 rfl rfl; clear h4 h5; unfold OpY; go_simp; exact ⟨congrArg Value.bool HQ20.out, hG.out⟩
       ·refine skT (s := true) (x := (.bool p21)) rfl rfl rfl fun _ w' hG ρ h1 h2 h3 h4 h5 => ?_; have f420 : ρ (.tmp 420) = (.bool false) := h4 13 420 rfl rfl; have f427 : ρ (.tmp 427) = (WF false (.bool q20)) := h4 20 427 rfl rfl; have e5 := HP21.out; simp only [Bool.false_and, Bool.true_and, Bool.true_or, Bool.false_or] at e5; subst e5; all_goals (try dsimp only [WF, WT] at *; clear h4 h5; unfold OpY; go_simp; exact ⟨rfl, hG.out⟩)
       ·refine skU rfl fun w' hG ρ h1 h2 h3 h4 h5 => ?_; have f417 : ρ (.tmp 417) = (.bool true) := h4 10 417 rfl rfl; have f428 : ρ (.tmp 428) = (WT true (.bool p21)) := h4 21 428 rfl rfl; have e5 := HP22.out; simp only [Bool.false_and, Bool.true_and, Bool.true_or, Bool.false_or] at e5; subst e5; all_goals (try dsimp only [WF, WT] at *; clear h4 h5; unfold OpY; go_simp; exact ⟨rfl, hG.out⟩)
       refine skU rfl fun w' hG ρ h1 h2 h3 h4 h5 => ?_; have f429 : ρ (.tmp 429) = (.bool p22) := h4 22 429 rfl rfl; rotate_left
       all_goals (clear h4 h5; unfold OpY; go_simp; exact ⟨rfl, hG.out⟩)
      case hdone =>
       intro w' hG
       have HBF := hid (ext_trans HB4.out hG)
       clear hG
       go_wp2_with fail
       all_goals (go_ret; exact ⟨by rw [HQ.out, HMK.out, HR5.out]; try rfl, HBF.out⟩)
    ·have ja : (qat == at_) = false := by simpa using ha
     have HR5 : Hid (abortR l.reverse ⟨10, th, tx, at_, v, x, 3⟩ A = false) := hid (by unfold abortR; simp [hlk, ha])
     have k9 := HK4.out.cell 9 (v := .int .u8 A.last) rfl
     have e3 := HE4.out.cell 3 (v := .int .i64 at_) rfl
     have y3 := HL5.out.cell 3 (v := .int .i64 qat) rfl
     clear hlk ha l2
     skip
     go_quiet (fail)
     go_wp2_with fail
     all_goals (go_ret; exact ⟨by rw [HQ.out, HMK.out, HR5.out]; try rfl, ext_drewN HB4.out _⟩)
   ·have x1 : (A.last == 2) = false := by simpa using l2
    have HR5 : Hid (abortR l.reverse ⟨10, th, tx, at_, v, x, 3⟩ A = false) := hid (by unfold abortR; simp [l2])
    have k9 := HK4.out.cell 9 (v := .int .u8 A.last) rfl
    clear hlk l2
    skip
    go_quiet (fail)
    go_wp2_with fail
    all_goals (go_ret; exact ⟨by rw [HQ.out, HMK.out, HR5.out]; try rfl, ext_drewN HB4.out _⟩)
  ·skip
   have HMK : Hid (mayK S l.reverse ⟨10, th, tx, at_, v, x, 4⟩ A = abortR l.reverse ⟨10, th, tx, at_, v, x, 4⟩ A) := hid (by unfold mayK; simp)
   go_wp2_with fail
   clear e6
   obtain ⟨q4, hq4⟩ : ∃ q : Bool, ((A.last == 4)) = q := ⟨_, rfl⟩
   have HQ4 := hid hq4
   obtain ⟨p5, hp5⟩ : ∃ p : Bool, p = (rd || q4) := ⟨_, rfl⟩
   have HP5 := hid hp5
   obtain ⟨q12, hq12⟩ : ∃ q : Bool, (decide ((lastI A.locked) < at_)) = q := ⟨_, rfl⟩
   have HQ12 := hid hq12
   obtain ⟨p13, hp13⟩ : ∃ p : Bool, p = (p5 && q12) := ⟨_, rfl⟩
   have HP13 := hid hp13
   obtain ⟨p16, hp16⟩ : ∃ p : Bool, p = (p13 && ot) := ⟨_, rfl⟩
   have HP16 := hid hp16
   have HR5 : Hid (abortR l.reverse ⟨10, th, tx, at_, v, x, 4⟩ A = p16) := hid (by
    unfold abortR readsA otherR
    rw [hp16, hp13, hp5]
    try simp only [← hq4, ← hq12, ← HRD.out, ← HCK.out, ← HOT.out]
    rw [Bool.eq_iff_iff]
    simp
    all_goals (try (intros; omega)))
   clear hq4 hp5 hq12 hp13 hp16
   apply wp_region_known (fun qq => ([(.bool rd), (.bool rd), (WF rd (.pointer (some ⟨w2.heap.size, 9, none⟩))), (WF rd (.int .u8 A.last)), (WF rd (.bool q4)), (.bool p5), (.bool p5), (WT p5 (.pointer (some ⟨w.heap.size, 3, none⟩))), (WT p5 (.int .i64 at_)), (WT p5 (.pointer (some ⟨w2.heap.size, 4, none⟩))), (WT p5 (.slice pl A.locked.length cl)), (WT p5 (.int .i64 (lastI A.locked))), (WT p5 (.bool q12)), (.bool p13), (.bool p13), (WT p13 (.bool ot)), (.bool p16), (.bool p16)] : List Value).getD qq undef) (fun w' => Below w5.heap.size w5 w')
   focus (simp [putAll, dstOf, Act.put, List.getD]; rfl)
   case hm => kernel_rfl
   case hd => kernel_rfl
   case hb => kernel_rfl
   case hng => kernel_rfl
   case hsz => kernel_rfl
   case h0 => exact ext_drew (ext_refl _)
   case hstep =>
    refine ⟨?_, ?_, ?_, ?_, ?_, ?_, ?_, ?_, ?_, ?_, ?_, ?_, ?_, ?_, ?_, ?_, ?_, ?_, trivial⟩
    refine skU rfl fun w' hG ρ h1 h2 h3 h4 h5 => ?_; have f12 : ρ (.tmp 12) = .bool rd := h5 12 rfl; rotate_left
    refine skU rfl fun w' hG ρ h1 h2 h3 h4 h5 => ?_; have f432 : ρ (.tmp 432) = (.bool rd) := h4 0 432 rfl rfl; rotate_left
    refine skF (s := rd) (x := (.pointer (some ⟨w2.heap.size, 9, none⟩))) rfl rfl rfl fun hs w' hG ρ h1 h2 h3 h4 h5 => ?_; subst hs; have f11 : ρ (.tmp 11) = .pointer (some ⟨w2.heap.size, 0, none⟩) := h5 11 rfl; rotate_left
    refine skF (s := rd) (x := (.int .u8 A.last)) rfl rfl rfl fun hs w' hG ρ h1 h2 h3 h4 h5 => ?_; subst hs; have f434 : ρ (.tmp 434) = (.pointer (some ⟨w2.heap.size, 9, none⟩)) := h4 2 434 rfl rfl; have c := (HK4.out.below hG.out).cell 9 (v := .int .u8 A.last) rfl; rotate_left
    ·refine skF (s := rd) (x := (.bool q4)) rfl rfl rfl fun hs w' hG ρ h1 h2 h3 h4 h5 => ?_; subst hs; have f435 : ρ (.tmp 435) = (.int .u8 A.last) := h4 3 435 rfl rfl; clear h4 h5; unfold OpY; go_simp; exact ⟨congrArg Value.bool HQ4.out, hG.out⟩
    ·refine skU rfl fun w' hG ρ h1 h2 h3 h4 h5 => ?_; have f433 : ρ (.tmp 433) = (.bool rd) := h4 1 433 rfl rfl; have f436 : ρ (.tmp 436) = (WF rd (.bool q4)) := h4 4 436 rfl rfl; have e5 := HP5.out; cases rd <;> simp only [Bool.false_and, Bool.true_and, Bool.true_or, Bool.false_or] at e5 <;> subst e5; all_goals (try dsimp only [WF, WT] at *; clear h4 h5; unfold OpY; go_simp; exact ⟨rfl, hG.out⟩)
    refine skU rfl fun w' hG ρ h1 h2 h3 h4 h5 => ?_; have f437 : ρ (.tmp 437) = (.bool p5) := h4 5 437 rfl rfl; rotate_left
    refine skT (s := p5) (x := (.pointer (some ⟨w.heap.size, 3, none⟩))) rfl rfl rfl fun hs w' hG ρ h1 h2 h3 h4 h5 => ?_; subst hs; have f6 : ρ (.tmp 6) = .pointer (some ⟨w.heap.size, 0, none⟩) := h5 6 rfl; rotate_left
    refine skT (s := p5) (x := (.int .i64 at_)) rfl rfl rfl fun hs w' hG ρ h1 h2 h3 h4 h5 => ?_; subst hs; have f439 : ρ (.tmp 439) = (.pointer (some ⟨w.heap.size, 3, none⟩)) := h4 7 439 rfl rfl; have c := (HE4.out.below hG.out).cell 3 (v := .int .i64 at_) rfl; rotate_left
    refine skT (s := p5) (x := (.pointer (some ⟨w2.heap.size, 4, none⟩))) rfl rfl rfl fun hs w' hG ρ h1 h2 h3 h4 h5 => ?_; subst hs; have f11 : ρ (.tmp 11) = .pointer (some ⟨w2.heap.size, 0, none⟩) := h5 11 rfl; rotate_left
    refine skT (s := p5) (x := (.slice pl A.locked.length cl)) rfl rfl rfl fun hs w' hG ρ h1 h2 h3 h4 h5 => ?_; subst hs; have f441 : ρ (.tmp 441) = (.pointer (some ⟨w2.heap.size, 4, none⟩)) := h4 9 441 rfl rfl; have c := (HK4.out.below hG.out).cell 4 (v := .slice pl A.locked.length cl) rfl; rotate_left
    ·refine skT (s := p5) (x := (.int .i64 (lastI A.locked))) rfl rfl rfl fun hs w' hG ρ h1 h2 h3 h4 h5 => ?_; subst hs; have f442 : ρ (.tmp 442) = (.slice pl A.locked.length cl) := h4 10 442 rfl rfl; clear h4 h5; unfold OpY; go_simp; unfold OpR; refine (last_any A.locked _ _ ((HR4.out.rl.rdL).below hG.out) (by have h1 := HLN.out.l; rw [List.length_reverse] at h1; have := HLEN.out; omega)).mono ?_; rintro e' w1 ⟨rfl, rfl⟩; exact ⟨_, rfl, rfl, hG.out⟩
    ·refine skT (s := p5) (x := (.bool q12)) rfl rfl rfl fun hs w' hG ρ h1 h2 h3 h4 h5 => ?_; subst hs; have f440 : ρ (.tmp 440) = (.int .i64 at_) := h4 8 440 rfl rfl; have f443 : ρ (.tmp 443) = (.int .i64 (lastI A.locked)) := h4 11 443 rfl rfl; clear h4 h5; unfold OpY; go_simp; exact ⟨congrArg Value.bool HQ12.out, hG.out⟩
    ·refine skU rfl fun w' hG ρ h1 h2 h3 h4 h5 => ?_; have f438 : ρ (.tmp 438) = (.bool p5) := h4 6 438 rfl rfl; have f444 : ρ (.tmp 444) = (WT p5 (.bool q12)) := h4 12 444 rfl rfl; have e5 := HP13.out; cases p5 <;> simp only [Bool.false_and, Bool.true_and, Bool.true_or, Bool.false_or] at e5 <;> subst e5; all_goals (try dsimp only [WF, WT] at *; clear h4 h5; unfold OpY; go_simp; exact ⟨rfl, hG.out⟩)
    refine skU rfl fun w' hG ρ h1 h2 h3 h4 h5 => ?_; have f445 : ρ (.tmp 445) = (.bool p13) := h4 13 445 rfl rfl; rotate_left
    refine skT (s := p13) (x := (.bool ot)) rfl rfl rfl fun hs w' hG ρ h1 h2 h3 h4 h5 => ?_; subst hs; have f15 : ρ (.tmp 15) = .bool ot := h5 15 rfl; rotate_left
    ·refine skU rfl fun w' hG ρ h1 h2 h3 h4 h5 => ?_; have f446 : ρ (.tmp 446) = (.bool p13) := h4 14 446 rfl rfl; have f447 : ρ (.tmp 447) = (WT p13 (.bool ot)) := h4 15 447 rfl rfl; have e5 := HP16.out; cases p13 <;> simp only [Bool.false_and, Bool.true_and, Bool.true_or, Bool.false_or] at e5 <;> subst e5; all_goals (try dsimp only [WF, WT] at *; clear h4 h5; unfold OpY; go_simp; exact ⟨rfl, hG.out⟩)
    refine skU rfl fun w' hG ρ h1 h2 h3 h4 h5 => ?_; have f448 : ρ (.tmp 448) = (.bool p16) := h4 16 448 rfl rfl; rotate_left
    all_goals (clear h4 h5; unfold OpY; go_simp; exact ⟨rfl, hG.out⟩)
   case hdone =>
    intro w' hG
    have HBF := hid (ext_trans HB4.out hG)
    clear hG 
    go_wp2_with fail
    all_goals (go_ret; exact ⟨by rw [HQ.out, HMK.out, HR5.out]; try rfl, HBF.out⟩)
  ·skip
   have HMK : Hid (mayK S l.reverse ⟨10, th, tx, at_, v, x, 5⟩ A = abortR l.reverse ⟨10, th, tx, at_, v, x, 5⟩ A) := hid (by unfold mayK; simp)
   have g0 := HK4.out.cell 0 (v := .slice pL A.L.length cL) rfl
   have g1 := HK4.out.cell 1 (v := .int .i64 A.rv) rfl
   have g2 := HK4.out.cell 2 (v := .int .i64 A.wv) rfl
   have g3 := HK4.out.cell 3 (v := .slice pr A.read.length cr) rfl
   have g4 := HK4.out.cell 4 (v := .slice pl A.locked.length cl) rfl
   have g5 := HK4.out.cell 5 (v := .slice pf A.freed.length cf) rfl
   have g6 := HK4.out.cell 6 (v := .int .i64 (A.checked : Int)) rfl
   have g7 := HK4.out.cell 7 (v := .slice ps A.stored.length cs) rfl
   have g8 := HK4.out.cell 8 (v := .int .u8 A.why) rfl
   have g9 := HK4.out.cell 9 (v := .int .u8 A.last) rfl
   go_wp2_with fail
   clear e6
   refine (left_any A pL pr pl pf ps cL cr cl cf cs _ ⟨(by have := HNN.out; show _ ≤ A.rv; omega), HNN.out.2⟩ HGA.out.2.1 (show A.read.length ≤ 1048576 from by have h1 := HLN.out.r; rw [List.length_reverse] at h1; have := HLEN.out; omega) HR4.out.rr.rdL).mono ?_
   rintro e' w6 ⟨pq, cq, rfl, hb5, hq5⟩
   have HQ5 := hid hq5
   have HE5 := hid (HE4.out.below hb5)
   have HK5 := hid (HK4.out.below hb5)
   have HB5 := hid (ext_trans HB4.out hb5)
   clear hb5 hq5 HE4 HK4 HB4 HR4 g0 g1 g2 g3 g4 g5 g6 g7 g8 g9
   have HE4 := HE5
   have HK4 := HK5
   have HB4 := HB5
   clear HE5 HK5 HB5
   rcases hlf : leftA A with _ | ⟨y, ys⟩
   ·have HR5 : Hid (abortR l.reverse ⟨10, th, tx, at_, v, x, 5⟩ A = false) := hid (by unfold abortR; simp [hlf, headB])
    rw [List.length_nil]
    clear hlf HQ5
    cases ck <;> (go_wp2_with fail; go_quiet (fail); go_wp2_with fail; all_goals (go_ret; exact ⟨by rw [HQ.out, HMK.out, HR5.out]; try rfl, ext_drewN HB4.out _⟩))
   ·skip
    obtain ⟨lb, lo, rfl, hcy⟩ := HQ5.out (by rw [hlf]; simp)
    have HCY := hid (hcy y (by rw [hlf]; rfl))
    have hhd : headB (leftA A) at_ = (y == at_) := by unfold headB; rw [hlf, List.head?_cons, Bool.eq_iff_iff, decide_eq_true_eq, beq_iff_eq]; exact ⟨fun h => Option.some.inj h, fun h => by rw [h]⟩
    obtain ⟨N, hN⟩ : ∃ N, N = (y :: ys).length := ⟨_, rfl⟩
    have hN1 : N = ys.length + 1 := by rw [hN]; rfl
    rw [← hN]
    have JN := hid (show decide ((0 : Int) < (N : Int)) = true ∧ (0 : Int) < (N : Int) ∧ 0 < N from ⟨decide_eq_true (by omega), by omega, by omega⟩)
    clear hcy hN hN1 hlf HQ5
    have HR5 : Hid (abortR l.reverse ⟨10, th, tx, at_, v, x, 5⟩ A = (ck && (y == at_) && (ot || nw))) := hid (by unfold abortR checksA otherR; (try simp only [← HRD.out, ← HCK.out, ← HOT.out, ← HNW.out]); rw [Bool.eq_iff_iff]; simp [hhd]; all_goals (try (intros; omega)))
    clear hhd
    obtain ⟨y1, y2, y3⟩ := JN.out
    have c := HCY.out
    have e3 := HE4.out.cell 3 (v := .int .i64 at_) rfl
    go_wp2_with fail
    cases ck
    ·go_quiet (fail); go_wp2_with fail; all_goals (go_ret; exact ⟨by rw [HQ.out, HMK.out, HR5.out]; try rfl, ext_drewN HB4.out _⟩)
    ·cases ja : (y == at_)
     ·rw [ja] at HR5; go_quiet (fail); go_wp2_with fail; all_goals (go_ret; exact ⟨by rw [HQ.out, HMK.out, HR5.out]; try rfl, ext_drewN HB4.out _⟩)
     ·rw [ja] at HR5; cases ot <;> (go_quiet (fail); go_wp2_with fail; all_goals (go_ret; exact ⟨by rw [HQ.out, HMK.out, HR5.out]; try rfl, ext_drewN HB4.out _⟩))
  ·skip
   have HMK : Hid (mayK S l.reverse ⟨10, th, tx, at_, v, x, 6⟩ A = abortR l.reverse ⟨10, th, tx, at_, v, x, 6⟩ A) := hid (by unfold mayK; simp)
   have HR5 : Hid (abortR l.reverse ⟨10, th, tx, at_, v, x, 6⟩ A = (A.last == 4)) := hid (by unfold abortR; (try simp only [← HRD.out, ← HCK.out, ← HOT.out, ← HNW.out]); rw [Bool.eq_iff_iff]; simp; all_goals (try (intros; omega)))
   have k9 := HK4.out.cell 9 (v := .int .u8 A.last) rfl
   go_wp2_with fail
   all_goals (go_ret; exact ⟨by rw [HQ.out, HMK.out, HR5.out]; try rfl, HB4.out⟩)
end Go.Proofs.YtcddlnmcjmhbcaaDoor
