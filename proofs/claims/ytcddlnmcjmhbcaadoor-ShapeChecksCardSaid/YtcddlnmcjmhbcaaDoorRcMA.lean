/-
 Walk of the document's checker: May at the Kinds 2, 4, 5, 12, 7, 6. (Printed: tools/gen_may.py.)
-/
import Derived.Test.YtcddlnmcjmhbcaaDoorRgH
namespace Go.Proofs.YtcddlnmcjmhbcaaDoor
set_option linter.unusedVariables false
set_option linter.unusedSimpArgs false
set_option linter.unusedVariables false
open Go Go.RowKit
set_option maxRecDepth 100000 in
set_option maxHeartbeats 40000000 in
theorem may_A (a : Option Addr) (l : List Ev) (n cap : Nat) (kind th tx at_ v x why T V S : Int) (w : World) (G : MayG a l n cap ⟨kind, th, tx, at_, v, x, why⟩ T V S w) (hk : kind = 2 ∨ kind = 4 ∨ kind = 5 ∨ kind = 12 ∨ kind = 7 ∨ kind = 6) :
  Calls Tryd.prog 24 #[.slice a n cap, evA ⟨kind, th, tx, at_, v, x, why⟩, .int .i64 T, .int .i64 V, .int .i64 S] w fun e' w' => e' = .returned (.bool (mayQ S l.reverse ⟨kind, th, tx, at_, v, x, why⟩ (mineV S th l.reverse))) ∧ Below w.heap.size w w' := by
 have HMAYE := hid G.mayE
 have HMI := hid G.mine
 have HOW := hid G.owner
 have HVER := hid G.ver
 have HCLK := hid G.clk
 have HCOM := hid G.com
 have HLEN := hid G.len
 have HGOOD := hid G.good
 have HNN := hid G.n
 have HS := hid G.s
 have HAT := hid G.at0
 have HST := hid G.st
 clear G
 have n1 : (kind == 1) = false := by rw [beq_eq_false_iff_ne]; omega
 have HKD := hid hk
 clear hk
 unfold evA
 dsimp only at HMAYE HMI HAT HST ⊢
 go_enter Tryd.func24, Tryd.ntmps24
 have hq := Blk.new w #[.int .u8 kind, .int .i64 th, .int .i64 tx, .int .i64 at_, .int .i64 v, .int .i64 x, .int .u8 why] 49
 have e0 := hq.cell 0 (v := .int .u8 kind) rfl
 have e1 := hq.cell 1 (v := .int .i64 th) rfl
 have e2 := hq.cell 2 (v := .int .i64 tx) rfl
 have e3 := hq.cell 3 (v := .int .i64 at_) rfl
 have e4 := hq.cell 4 (v := .int .i64 v) rfl
 have e5 := hq.cell 5 (v := .int .i64 x) rfl
 have e6 := hq.cell 6 (v := .int .u8 why) rfl
 have HE0 := hid hq
 clear hq
 go_wp2_with fail
 refine (HMAYE.out _ (ext_alloc (ext_refl _) _)).mono ?_
 rintro e' w1 ⟨rfl, hb1⟩
 have HB1 := hid (ext_trans (ext_alloc (ext_refl w) (.cells #[.int .u8 kind, .int .i64 th, .int .i64 tx, .int .i64 at_, .int .i64 v, .int .i64 x, .int .u8 why] 49)) hb1)
 have HE1 := hid (HE0.out.below hb1)
 clear hb1 e0 e1 e2 e3 e4 e5 e6 HE0
 have e1 := HE1.out.cell 1 (v := .int .i64 th) rfl
 go_wp2_with fail
 refine (HMI.out _ HB1.out).mono ?_
 rintro e' w2 ⟨vL, vr, vl, vf, vs, rfl, hb2, hr2⟩
 obtain ⟨pL, cL, pr, cr, pl, cl, pf, cf, ps, cs, rfl, rfl, rfl, rfl, rfl⟩ := hr2.shape
 have HLN := hid (mine_len S th l.reverse)
 generalize hA : mineV S th l.reverse = A at *
 have HAE := hid hA
 clear hA
 have HE2 := hid ((HE1.out.below hb2).alloc (.cells (AtV A (.slice pL A.L.length cL) (.slice pr A.read.length cr) (.slice pl A.locked.length cl) (.slice pf A.freed.length cf) (.slice ps A.stored.length cs)) 95))
 have HB2 := hid (ext_alloc (ext_trans HB1.out hb2) (.cells (AtV A (.slice pL A.L.length cL) (.slice pr A.read.length cr) (.slice pl A.locked.length cl) (.slice pf A.freed.length cf) (.slice ps A.stored.length cs)) 95))
 have HR2 := hid (hr2.below (ext_alloc (ext_refl _) (.cells (AtV A (.slice pL A.L.length cL) (.slice pr A.read.length cr) (.slice pl A.locked.length cl) (.slice pf A.freed.length cf) (.slice ps A.stored.length cs)) 95)))
 have hk := Blk.new w2 (AtV A (.slice pL A.L.length cL) (.slice pr A.read.length cr) (.slice pl A.locked.length cl) (.slice pf A.freed.length cf) (.slice ps A.stored.length cs)) 95
 have HK2 := hid hk
 have HEA := hid (show w.heap.size < w2.heap.size from by have := hb2.size; have := HB1.out.size; have := (HE1.out).lt; omega)
 have k0 := hk.cell 0 (v := .slice pL A.L.length cL) rfl
 have k1 := hk.cell 1 (v := .int .i64 A.rv) rfl
 have k2 := hk.cell 2 (v := .int .i64 A.wv) rfl
 have k3 := hk.cell 3 (v := .slice pr A.read.length cr) rfl
 have k4 := hk.cell 4 (v := .slice pl A.locked.length cl) rfl
 have k5 := hk.cell 5 (v := .slice pf A.freed.length cf) rfl
 have k6 := hk.cell 6 (v := .int .i64 (A.checked : Int)) rfl
 have k7 := hk.cell 7 (v := .slice ps A.stored.length cs) rfl
 have k8 := hk.cell 8 (v := .int .u8 A.why) rfl
 have k9 := hk.cell 9 (v := .int .u8 A.last) rfl
 have e0 := HE2.out.cell 0 (v := .int .u8 kind) rfl
 clear hk hb2 hr2 HB1 HE1 e1
 unfold AtV at *
 go_wp2_with fail
 refine (over_any A pL pr pl pf ps cL cr cl cf cs _).mono ?_
 rintro e' w3 ⟨rfl, hb3⟩
 have HE := hid (HE2.out.below hb3)
 have HK := hid (HK2.out.below hb3)
 have HR := hid (HR2.out.below hb3)
 have HB := hid (ext_trans HB2.out hb3)
 clear hb3 HE2 HK2 HR2 HB2 k0 k1 k2 k3 k4 k5 k6 k7 k8 k9 e0
 cases ho : overA A
 case true =>
  have HQ : Hid (mayQ S l.reverse ⟨kind, th, tx, at_, v, x, why⟩ (mineV S th l.reverse) = false) := hid (by rw [HAE.out]; unfold mayQ; rw [if_neg (by simpa using n1), if_pos ho])
  clear ho
  go_wp2_with fail
  go_ret
  exact ⟨by rw [HQ.out]; try rfl, HB.out⟩
 have HQ : Hid (mayQ S l.reverse ⟨kind, th, tx, at_, v, x, why⟩ (mineV S th l.reverse) = mayK S l.reverse ⟨kind, th, tx, at_, v, x, why⟩ A) := hid (by rw [HAE.out]; unfold mayQ; rw [if_neg (by simpa using n1), if_neg (by rw [ho]; simp)])
 have HGA := hid (HGOOD.out ho)
 clear ho
 have e0 := HE.out.cell 0 (v := .int .u8 kind) rfl
 have e1 := HE.out.cell 1 (v := .int .i64 th) rfl
 have e3 := HE.out.cell 3 (v := .int .i64 at_) rfl
 have k9 := HK.out.cell 9 (v := .int .u8 A.last) rfl
 go_upto_region 8 with (fail)
 obtain ⟨ra, hra⟩ : ∃ q : Bool, ((A.last == 1)) = q := ⟨_, rfl⟩
 have HRA := hid hra
 obtain ⟨rb, hrb⟩ : ∃ q : Bool, ((A.last == 3)) = q := ⟨_, rfl⟩
 have HRB := hid hrb
 obtain ⟨rd, hrd⟩ : ∃ p : Bool, p = (ra || rb) := ⟨_, rfl⟩
 have HRD := hid hrd
 have HFRD : Hid ((A.last == 1 || A.last == 3) = rd) := hid (by rw [hrd, ← hra, ← hrb])
 clear hra hrb hrd
 apply wp_region_knownL (fun qq => ([(.pointer (some ⟨w2.heap.size, 9, none⟩)), (.int .u8 A.last), (.bool ra), (.bool ra), (WF ra (.pointer (some ⟨w2.heap.size, 9, none⟩))), (WF ra (.int .u8 A.last)), (WF ra (.bool rb)), (.bool rd), (.bool rd)] : List Value).getD qq undef) (fun w' => Below w3.heap.size w3 w')
 focus (simp [putAll, dstOf, Act.put, List.getD]; rfl)
 case hd => kernel_rfl
 case hb => kernel_rfl
 case hng => kernel_rfl
 case hsz => kernel_rfl
 case h0 => exact ext_refl _
 case hstep =>
  refine ⟨?_, ?_, ?_, ?_, ?_, ?_, ?_, ?_, ?_, trivial⟩
  refine skU rfl fun w' hG ρ h1 h2 h3 h4 h5 => ?_; have f11 : ρ (.tmp 11) = .pointer (some ⟨w2.heap.size, 0, none⟩) := h5 11 rfl; rotate_left
  refine skU rfl fun w' hG ρ h1 h2 h3 h4 h5 => ?_; have f65 : ρ (.tmp 65) = (.pointer (some ⟨w2.heap.size, 9, none⟩)) := h4 0 65 rfl rfl; have c := (HK.out.below hG.out).cell 9 (v := .int .u8 A.last) rfl; rotate_left
  ·refine skU rfl fun w' hG ρ h1 h2 h3 h4 h5 => ?_; have f66 : ρ (.tmp 66) = (.int .u8 A.last) := h4 1 66 rfl rfl; clear h4 h5; unfold OpY; go_simp; exact ⟨congrArg Value.bool HRA.out, hG.out⟩
  refine skU rfl fun w' hG ρ h1 h2 h3 h4 h5 => ?_; have f67 : ρ (.tmp 67) = (.bool ra) := h4 2 67 rfl rfl; rotate_left
  refine skF (s := ra) (x := (.pointer (some ⟨w2.heap.size, 9, none⟩))) rfl rfl rfl fun hs w' hG ρ h1 h2 h3 h4 h5 => ?_; subst hs; have f11 : ρ (.tmp 11) = .pointer (some ⟨w2.heap.size, 0, none⟩) := h5 11 rfl; rotate_left
  refine skF (s := ra) (x := (.int .u8 A.last)) rfl rfl rfl fun hs w' hG ρ h1 h2 h3 h4 h5 => ?_; subst hs; have f69 : ρ (.tmp 69) = (.pointer (some ⟨w2.heap.size, 9, none⟩)) := h4 4 69 rfl rfl; have c := (HK.out.below hG.out).cell 9 (v := .int .u8 A.last) rfl; rotate_left
  ·refine skF (s := ra) (x := (.bool rb)) rfl rfl rfl fun hs w' hG ρ h1 h2 h3 h4 h5 => ?_; subst hs; have f70 : ρ (.tmp 70) = (.int .u8 A.last) := h4 5 70 rfl rfl; clear h4 h5; unfold OpY; go_simp; exact ⟨congrArg Value.bool HRB.out, hG.out⟩
  ·refine skU rfl fun w' hG ρ h1 h2 h3 h4 h5 => ?_; have f68 : ρ (.tmp 68) = (.bool ra) := h4 3 68 rfl rfl; have f71 : ρ (.tmp 71) = (WF ra (.bool rb)) := h4 6 71 rfl rfl; have e5 := HRD.out; cases ra <;> simp only [Bool.false_and, Bool.true_and, Bool.true_or, Bool.false_or] at e5 <;> subst e5; all_goals (try dsimp only [WF, WT] at *; clear h4 h5; unfold OpY; go_simp; exact ⟨rfl, hG.out⟩)
  refine skU rfl fun w' hG ρ h1 h2 h3 h4 h5 => ?_; have f72 : ρ (.tmp 72) = (.bool rd) := h4 7 72 rfl rfl; rotate_left
  all_goals (clear h4 h5; unfold OpY; go_simp; exact ⟨rfl, hG.out⟩)
 case hdone =>
 intro w31 hG
 have HEx := hid (HE.out.below hG)
 have HKx := hid (HK.out.below hG)
 have HRx := hid (HR.out.below hG)
 have HBx := hid (ext_trans HB.out hG)
 clear hG HE HK HR HB e0 e1 e3 k9 HRA HRB HRD
 have HE := HEx
 have HK := HKx
 have HR := HRx
 have HB := HBx
 clear HEx HKx HRx HBx
 have e0 := HE.out.cell 0 (v := .int .u8 kind) rfl
 have e1 := HE.out.cell 1 (v := .int .i64 th) rfl
 have e3 := HE.out.cell 3 (v := .int .i64 at_) rfl
 have k9 := HK.out.cell 9 (v := .int .u8 A.last) rfl
 go_upto_region 9 with (fail)
 obtain ⟨ca, hca⟩ : ∃ q : Bool, ((A.last == 5)) = q := ⟨_, rfl⟩
 have HCA := hid hca
 obtain ⟨cb, hcb⟩ : ∃ q : Bool, ((A.last == 6)) = q := ⟨_, rfl⟩
 have HCB := hid hcb
 obtain ⟨ck, hck⟩ : ∃ p : Bool, p = (ca || cb) := ⟨_, rfl⟩
 have HCK := hid hck
 have HFCK : Hid ((A.last == 5 || A.last == 6) = ck) := hid (by rw [hck, ← hca, ← hcb])
 clear hca hcb hck
 apply wp_region_knownL (fun qq => ([(.pointer (some ⟨w2.heap.size, 9, none⟩)), (.int .u8 A.last), (.bool ca), (.bool ca), (WF ca (.pointer (some ⟨w2.heap.size, 9, none⟩))), (WF ca (.int .u8 A.last)), (WF ca (.bool cb)), (.bool ck), (.bool ck)] : List Value).getD qq undef) (fun w' => Below w31.heap.size w31 w')
 focus (simp [putAll, dstOf, Act.put, List.getD]; rfl)
 case hd => kernel_rfl
 case hb => kernel_rfl
 case hng => kernel_rfl
 case hsz => kernel_rfl
 case h0 => exact ext_refl _
 case hstep =>
  refine ⟨?_, ?_, ?_, ?_, ?_, ?_, ?_, ?_, ?_, trivial⟩
  refine skU rfl fun w' hG ρ h1 h2 h3 h4 h5 => ?_; have f11 : ρ (.tmp 11) = .pointer (some ⟨w2.heap.size, 0, none⟩) := h5 11 rfl; rotate_left
  refine skU rfl fun w' hG ρ h1 h2 h3 h4 h5 => ?_; have f73 : ρ (.tmp 73) = (.pointer (some ⟨w2.heap.size, 9, none⟩)) := h4 0 73 rfl rfl; have c := (HK.out.below hG.out).cell 9 (v := .int .u8 A.last) rfl; rotate_left
  ·refine skU rfl fun w' hG ρ h1 h2 h3 h4 h5 => ?_; have f74 : ρ (.tmp 74) = (.int .u8 A.last) := h4 1 74 rfl rfl; clear h4 h5; unfold OpY; go_simp; exact ⟨congrArg Value.bool HCA.out, hG.out⟩
  refine skU rfl fun w' hG ρ h1 h2 h3 h4 h5 => ?_; have f75 : ρ (.tmp 75) = (.bool ca) := h4 2 75 rfl rfl; rotate_left
  refine skF (s := ca) (x := (.pointer (some ⟨w2.heap.size, 9, none⟩))) rfl rfl rfl fun hs w' hG ρ h1 h2 h3 h4 h5 => ?_; subst hs; have f11 : ρ (.tmp 11) = .pointer (some ⟨w2.heap.size, 0, none⟩) := h5 11 rfl; rotate_left
  refine skF (s := ca) (x := (.int .u8 A.last)) rfl rfl rfl fun hs w' hG ρ h1 h2 h3 h4 h5 => ?_; subst hs; have f77 : ρ (.tmp 77) = (.pointer (some ⟨w2.heap.size, 9, none⟩)) := h4 4 77 rfl rfl; have c := (HK.out.below hG.out).cell 9 (v := .int .u8 A.last) rfl; rotate_left
  ·refine skF (s := ca) (x := (.bool cb)) rfl rfl rfl fun hs w' hG ρ h1 h2 h3 h4 h5 => ?_; subst hs; have f78 : ρ (.tmp 78) = (.int .u8 A.last) := h4 5 78 rfl rfl; clear h4 h5; unfold OpY; go_simp; exact ⟨congrArg Value.bool HCB.out, hG.out⟩
  ·refine skU rfl fun w' hG ρ h1 h2 h3 h4 h5 => ?_; have f76 : ρ (.tmp 76) = (.bool ca) := h4 3 76 rfl rfl; have f79 : ρ (.tmp 79) = (WF ca (.bool cb)) := h4 6 79 rfl rfl; have e5 := HCK.out; cases ca <;> simp only [Bool.false_and, Bool.true_and, Bool.true_or, Bool.false_or] at e5 <;> subst e5; all_goals (try dsimp only [WF, WT] at *; clear h4 h5; unfold OpY; go_simp; exact ⟨rfl, hG.out⟩)
  refine skU rfl fun w' hG ρ h1 h2 h3 h4 h5 => ?_; have f80 : ρ (.tmp 80) = (.bool ck) := h4 7 80 rfl rfl; rotate_left
  all_goals (clear h4 h5; unfold OpY; go_simp; exact ⟨rfl, hG.out⟩)
 case hdone =>
 intro w32 hG
 have HEx := hid (HE.out.below hG)
 have HKx := hid (HK.out.below hG)
 have HRx := hid (HR.out.below hG)
 have HBx := hid (ext_trans HB.out hG)
 clear hG HE HK HR HB e0 e1 e3 k9 HCA HCB HCK
 have HE := HEx
 have HK := HKx
 have HR := HRx
 have HB := HBx
 clear HEx HKx HRx HBx
 have e0 := HE.out.cell 0 (v := .int .u8 kind) rfl
 have e1 := HE.out.cell 1 (v := .int .i64 th) rfl
 have e3 := HE.out.cell 3 (v := .int .i64 at_) rfl
 have k9 := HK.out.cell 9 (v := .int .u8 A.last) rfl
 go_wp2_with fail
 refine (HOW.out _ HB.out at_).mono ?_
 rintro e' w33 ⟨rfl, hG⟩
 have HEx := hid (HE.out.below hG)
 have HKx := hid (HK.out.below hG)
 have HRx := hid (HR.out.below hG)
 have HBx := hid (ext_trans HB.out hG)
 clear hG HE HK HR HB e0 e1 e3 k9
 have HE := HEx
 have HK := HKx
 have HR := HRx
 have HB := HBx
 clear HEx HKx HRx HBx
 have e0 := HE.out.cell 0 (v := .int .u8 kind) rfl
 have e1 := HE.out.cell 1 (v := .int .i64 th) rfl
 have e3 := HE.out.cell 3 (v := .int .i64 at_) rfl
 have k9 := HK.out.cell 9 (v := .int .u8 A.last) rfl
 go_upto_region 11 with (fail)
 obtain ⟨oa, hoa⟩ : ∃ q : Bool, (decide (0 ≤ (ownV l.reverse at_))) = q := ⟨_, rfl⟩
 have HOA := hid hoa
 obtain ⟨ob, hob⟩ : ∃ q : Bool, (((ownV l.reverse at_) != th)) = q := ⟨_, rfl⟩
 have HOB := hid hob
 obtain ⟨ot, hot⟩ : ∃ p : Bool, p = (oa && ob) := ⟨_, rfl⟩
 have HOT := hid hot
 have HFOT : Hid ((decide (0 ≤ ownV l.reverse at_) && (ownV l.reverse at_ != th)) = ot) := hid (by rw [hot, ← hoa, ← hob])
 clear hoa hob hot
 apply wp_region_knownL (fun qq => ([(.int .i64 (ownV l.reverse at_)), (.bool oa), (.bool oa), (WT oa (.int .i64 (ownV l.reverse at_))), (WT oa (.pointer (some ⟨w.heap.size, 1, none⟩))), (WT oa (.int .i64 th)), (WT oa (.bool ob)), (.bool ot), (.bool ot)] : List Value).getD qq undef) (fun w' => Below w33.heap.size w33 w')
 focus (simp [putAll, dstOf, Act.put, List.getD]; rfl)
 case hd => kernel_rfl
 case hb => kernel_rfl
 case hng => kernel_rfl
 case hsz => kernel_rfl
 case h0 => exact ext_refl _
 case hstep =>
  refine ⟨?_, ?_, ?_, ?_, ?_, ?_, ?_, ?_, ?_, trivial⟩
  refine skU rfl fun w' hG ρ h1 h2 h3 h4 h5 => ?_; have f14 : ρ (.tmp 14) = .int .i64 (ownV l.reverse at_) := h5 14 rfl; rotate_left
  ·refine skU rfl fun w' hG ρ h1 h2 h3 h4 h5 => ?_; have f85 : ρ (.tmp 85) = (.int .i64 (ownV l.reverse at_)) := h4 0 85 rfl rfl; clear h4 h5; unfold OpY; go_simp; exact ⟨congrArg Value.bool HOA.out, hG.out⟩
  refine skU rfl fun w' hG ρ h1 h2 h3 h4 h5 => ?_; have f86 : ρ (.tmp 86) = (.bool oa) := h4 1 86 rfl rfl; rotate_left
  refine skT (s := oa) (x := (.int .i64 (ownV l.reverse at_))) rfl rfl rfl fun hs w' hG ρ h1 h2 h3 h4 h5 => ?_; subst hs; have f14 : ρ (.tmp 14) = .int .i64 (ownV l.reverse at_) := h5 14 rfl; rotate_left
  refine skT (s := oa) (x := (.pointer (some ⟨w.heap.size, 1, none⟩))) rfl rfl rfl fun hs w' hG ρ h1 h2 h3 h4 h5 => ?_; subst hs; have f6 : ρ (.tmp 6) = .pointer (some ⟨w.heap.size, 0, none⟩) := h5 6 rfl; rotate_left
  refine skT (s := oa) (x := (.int .i64 th)) rfl rfl rfl fun hs w' hG ρ h1 h2 h3 h4 h5 => ?_; subst hs; have f89 : ρ (.tmp 89) = (.pointer (some ⟨w.heap.size, 1, none⟩)) := h4 4 89 rfl rfl; have c := (HE.out.below hG.out).cell 1 (v := .int .i64 th) rfl; rotate_left
  ·refine skT (s := oa) (x := (.bool ob)) rfl rfl rfl fun hs w' hG ρ h1 h2 h3 h4 h5 => ?_; subst hs; have f88 : ρ (.tmp 88) = (.int .i64 (ownV l.reverse at_)) := h4 3 88 rfl rfl; have f90 : ρ (.tmp 90) = (.int .i64 th) := h4 5 90 rfl rfl; clear h4 h5; unfold OpY; go_simp; exact ⟨congrArg Value.bool HOB.out, hG.out⟩
  ·refine skU rfl fun w' hG ρ h1 h2 h3 h4 h5 => ?_; have f87 : ρ (.tmp 87) = (.bool oa) := h4 2 87 rfl rfl; have f91 : ρ (.tmp 91) = (WT oa (.bool ob)) := h4 6 91 rfl rfl; have e5 := HOT.out; cases oa <;> simp only [Bool.false_and, Bool.true_and, Bool.true_or, Bool.false_or] at e5 <;> subst e5; all_goals (try dsimp only [WF, WT] at *; clear h4 h5; unfold OpY; go_simp; exact ⟨rfl, hG.out⟩)
  refine skU rfl fun w' hG ρ h1 h2 h3 h4 h5 => ?_; have f92 : ρ (.tmp 92) = (.bool ot) := h4 7 92 rfl rfl; rotate_left
  all_goals (clear h4 h5; unfold OpY; go_simp; exact ⟨rfl, hG.out⟩)
 case hdone =>
 intro w4 hG
 have HEx := hid (HE.out.below hG)
 have HKx := hid (HK.out.below hG)
 have HRx := hid (HR.out.below hG)
 have HBx := hid (ext_trans HB.out hG)
 clear hG HE HK HR HB e0 e1 e3 k9 HOA HOB HOT
 have HE := HEx
 have HK := HKx
 have HR := HRx
 have HB := HBx
 clear HEx HKx HRx HBx
 have HE4 := HE
 have HK4 := HK
 have HR4 := HR
 have HB4 := HB
 clear HE HK HR HB
 have HRD := HFRD
 have HCK := HFCK
 have HOT := HFOT
 clear HFRD HFCK HFOT
 have e0 := HE4.out.cell 0 (v := .int .u8 kind) rfl
 have e1 := HE4.out.cell 1 (v := .int .i64 th) rfl
 go_upto_block 0 with (fail)
 clear e0 n1
 rcases HKD.out with rfl | rfl | rfl | rfl | rfl | rfl
 ·as_aux_lemma =>
  go_wp2_with fail
  obtain ⟨q3, hq3⟩ : ∃ q : Bool, (decide ((ownV l.reverse at_) < 0)) = q := ⟨_, rfl⟩
  have HQ3 := hid hq3
  obtain ⟨p4, hp4⟩ : ∃ p : Bool, p = (rd && q3) := ⟨_, rfl⟩
  have HP4 := hid hp4
  obtain ⟨q12, hq12⟩ : ∃ q : Bool, (decide ((verV l.reverse at_) ≤ v)) = q := ⟨_, rfl⟩
  have HQ12 := hid hq12
  obtain ⟨p13, hp13⟩ : ∃ p : Bool, p = (p4 && q12) := ⟨_, rfl⟩
  have HP13 := hid hp13
  obtain ⟨q19, hq19⟩ : ∃ q : Bool, (decide (v ≤ A.rv)) = q := ⟨_, rfl⟩
  have HQ19 := hid hq19
  obtain ⟨p20, hp20⟩ : ∃ p : Bool, p = (p13 && q19) := ⟨_, rfl⟩
  have HP20 := hid hp20
  have HR5 : Hid (mayK S l.reverse ⟨2, th, tx, at_, v, x, why⟩ A = p20) := hid (by
   unfold mayK readsA
   rw [hp20, hp13, hp4]
   try simp only [← hq3, ← hq12, ← hq19, ← HRD.out, ← HCK.out, ← HOT.out]
   rw [Bool.eq_iff_iff]
   simp
   all_goals (try (intros; omega)))
  clear hq3 hp4 hq12 hp13 hq19 hp20
  apply wp_region_known (fun qq => ([(.bool rd), (.bool rd), (WT rd (.int .i64 (ownV l.reverse at_))), (WT rd (.bool q3)), (.bool p4), (.bool p4), (WT p4 (.pointer (some ⟨w.heap.size, 4, none⟩))), (WT p4 (.int .i64 v)), (WT p4 (.slice a n cap)), (WT p4 (.pointer (some ⟨w.heap.size, 3, none⟩))), (WT p4 (.int .i64 at_)), (WT p4 (.int .i64 (verV l.reverse at_))), (WT p4 (.bool q12)), (.bool p13), (.bool p13), (WT p13 (.pointer (some ⟨w.heap.size, 4, none⟩))), (WT p13 (.int .i64 v)), (WT p13 (.pointer (some ⟨w2.heap.size, 1, none⟩))), (WT p13 (.int .i64 A.rv)), (WT p13 (.bool q19)), (.bool p20), (.bool p20)] : List Value).getD qq undef) (fun w' => Below w4.heap.size w4 w')
  focus (simp [putAll, dstOf, Act.put, List.getD]; rfl)
  case hm => kernel_rfl
  case hd => kernel_rfl
  case hb => kernel_rfl
  case hng => kernel_rfl
  case hsz => kernel_rfl
  case h0 => exact ext_drew (ext_refl _)
  case hstep =>
   refine ⟨?_, ?_, ?_, ?_, ?_, ?_, ?_, ?_, ?_, ?_, ?_, ?_, ?_, ?_, ?_, ?_, ?_, ?_, ?_, ?_, ?_, ?_, trivial⟩
   refine skU rfl fun w' hG ρ h1 h2 h3 h4 h5 => ?_; have f12 : ρ (.tmp 12) = .bool rd := h5 12 rfl; rotate_left
   refine skU rfl fun w' hG ρ h1 h2 h3 h4 h5 => ?_; have f97 : ρ (.tmp 97) = (.bool rd) := h4 0 97 rfl rfl; rotate_left
   refine skT (s := rd) (x := (.int .i64 (ownV l.reverse at_))) rfl rfl rfl fun hs w' hG ρ h1 h2 h3 h4 h5 => ?_; subst hs; have f14 : ρ (.tmp 14) = .int .i64 (ownV l.reverse at_) := h5 14 rfl; rotate_left
   ·refine skT (s := rd) (x := (.bool q3)) rfl rfl rfl fun hs w' hG ρ h1 h2 h3 h4 h5 => ?_; subst hs; have f99 : ρ (.tmp 99) = (.int .i64 (ownV l.reverse at_)) := h4 2 99 rfl rfl; clear h4 h5; unfold OpY; go_simp; exact ⟨congrArg Value.bool HQ3.out, hG.out⟩
   ·refine skU rfl fun w' hG ρ h1 h2 h3 h4 h5 => ?_; have f98 : ρ (.tmp 98) = (.bool rd) := h4 1 98 rfl rfl; have f100 : ρ (.tmp 100) = (WT rd (.bool q3)) := h4 3 100 rfl rfl; have e5 := HP4.out; cases rd <;> simp only [Bool.false_and, Bool.true_and, Bool.true_or, Bool.false_or] at e5 <;> subst e5; all_goals (try dsimp only [WF, WT] at *; clear h4 h5; unfold OpY; go_simp; exact ⟨rfl, hG.out⟩)
   refine skU rfl fun w' hG ρ h1 h2 h3 h4 h5 => ?_; have f101 : ρ (.tmp 101) = (.bool p4) := h4 4 101 rfl rfl; rotate_left
   refine skT (s := p4) (x := (.pointer (some ⟨w.heap.size, 4, none⟩))) rfl rfl rfl fun hs w' hG ρ h1 h2 h3 h4 h5 => ?_; subst hs; have f6 : ρ (.tmp 6) = .pointer (some ⟨w.heap.size, 0, none⟩) := h5 6 rfl; rotate_left
   refine skT (s := p4) (x := (.int .i64 v)) rfl rfl rfl fun hs w' hG ρ h1 h2 h3 h4 h5 => ?_; subst hs; have f103 : ρ (.tmp 103) = (.pointer (some ⟨w.heap.size, 4, none⟩)) := h4 6 103 rfl rfl; have c := (HE4.out.below hG.out).cell 4 (v := .int .i64 v) rfl; rotate_left
   refine skT (s := p4) (x := (.slice a n cap)) rfl rfl rfl fun hs w' hG ρ h1 h2 h3 h4 h5 => ?_; subst hs; have f0 : ρ (.tmp 0) = .slice a n cap := h5 0 rfl; rotate_left
   refine skT (s := p4) (x := (.pointer (some ⟨w.heap.size, 3, none⟩))) rfl rfl rfl fun hs w' hG ρ h1 h2 h3 h4 h5 => ?_; subst hs; have f6 : ρ (.tmp 6) = .pointer (some ⟨w.heap.size, 0, none⟩) := h5 6 rfl; rotate_left
   refine skT (s := p4) (x := (.int .i64 at_)) rfl rfl rfl fun hs w' hG ρ h1 h2 h3 h4 h5 => ?_; subst hs; have f106 : ρ (.tmp 106) = (.pointer (some ⟨w.heap.size, 3, none⟩)) := h4 9 106 rfl rfl; have c := (HE4.out.below hG.out).cell 3 (v := .int .i64 at_) rfl; rotate_left
   ·refine skT (s := p4) (x := (.int .i64 (verV l.reverse at_))) rfl rfl rfl fun hs w' hG ρ h1 h2 h3 h4 h5 => ?_; subst hs; have f105 : ρ (.tmp 105) = (.slice a n cap) := h4 8 105 rfl rfl; have f107 : ρ (.tmp 107) = (.int .i64 at_) := h4 10 107 rfl rfl; clear h4 h5; unfold OpY; go_simp; unfold OpR; refine (HVER.out _ (ext_trans HB4.out hG.out) at_).mono ?_; rintro e' w1 ⟨rfl, hb⟩; exact ⟨_, rfl, rfl, ext_trans hG.out hb⟩
   ·refine skT (s := p4) (x := (.bool q12)) rfl rfl rfl fun hs w' hG ρ h1 h2 h3 h4 h5 => ?_; subst hs; have f104 : ρ (.tmp 104) = (.int .i64 v) := h4 7 104 rfl rfl; have f108 : ρ (.tmp 108) = (.int .i64 (verV l.reverse at_)) := h4 11 108 rfl rfl; clear h4 h5; unfold OpY; go_simp; exact ⟨congrArg Value.bool HQ12.out, hG.out⟩
   ·refine skU rfl fun w' hG ρ h1 h2 h3 h4 h5 => ?_; have f102 : ρ (.tmp 102) = (.bool p4) := h4 5 102 rfl rfl; have f109 : ρ (.tmp 109) = (WT p4 (.bool q12)) := h4 12 109 rfl rfl; have e5 := HP13.out; cases p4 <;> simp only [Bool.false_and, Bool.true_and, Bool.true_or, Bool.false_or] at e5 <;> subst e5; all_goals (try dsimp only [WF, WT] at *; clear h4 h5; unfold OpY; go_simp; exact ⟨rfl, hG.out⟩)
   refine skU rfl fun w' hG ρ h1 h2 h3 h4 h5 => ?_; have f110 : ρ (.tmp 110) = (.bool p13) := h4 13 110 rfl rfl; rotate_left
   refine skT (s := p13) (x := (.pointer (some ⟨w.heap.size, 4, none⟩))) rfl rfl rfl fun hs w' hG ρ h1 h2 h3 h4 h5 => ?_; subst hs; have f6 : ρ (.tmp 6) = .pointer (some ⟨w.heap.size, 0, none⟩) := h5 6 rfl; rotate_left
   refine skT (s := p13) (x := (.int .i64 v)) rfl rfl rfl fun hs w' hG ρ h1 h2 h3 h4 h5 => ?_; subst hs; have f112 : ρ (.tmp 112) = (.pointer (some ⟨w.heap.size, 4, none⟩)) := h4 15 112 rfl rfl; have c := (HE4.out.below hG.out).cell 4 (v := .int .i64 v) rfl; rotate_left
   refine skT (s := p13) (x := (.pointer (some ⟨w2.heap.size, 1, none⟩))) rfl rfl rfl fun hs w' hG ρ h1 h2 h3 h4 h5 => ?_; subst hs; have f11 : ρ (.tmp 11) = .pointer (some ⟨w2.heap.size, 0, none⟩) := h5 11 rfl; rotate_left
   refine skT (s := p13) (x := (.int .i64 A.rv)) rfl rfl rfl fun hs w' hG ρ h1 h2 h3 h4 h5 => ?_; subst hs; have f114 : ρ (.tmp 114) = (.pointer (some ⟨w2.heap.size, 1, none⟩)) := h4 17 114 rfl rfl; have c := (HK4.out.below hG.out).cell 1 (v := .int .i64 A.rv) rfl; rotate_left
   ·refine skT (s := p13) (x := (.bool q19)) rfl rfl rfl fun hs w' hG ρ h1 h2 h3 h4 h5 => ?_; subst hs; have f113 : ρ (.tmp 113) = (.int .i64 v) := h4 16 113 rfl rfl; have f115 : ρ (.tmp 115) = (.int .i64 A.rv) := h4 18 115 rfl rfl; clear h4 h5; unfold OpY; go_simp; exact ⟨congrArg Value.bool HQ19.out, hG.out⟩
   ·refine skU rfl fun w' hG ρ h1 h2 h3 h4 h5 => ?_; have f111 : ρ (.tmp 111) = (.bool p13) := h4 14 111 rfl rfl; have f116 : ρ (.tmp 116) = (WT p13 (.bool q19)) := h4 19 116 rfl rfl; have e5 := HP20.out; cases p13 <;> simp only [Bool.false_and, Bool.true_and, Bool.true_or, Bool.false_or] at e5 <;> subst e5; all_goals (try dsimp only [WF, WT] at *; clear h4 h5; unfold OpY; go_simp; exact ⟨rfl, hG.out⟩)
   refine skU rfl fun w' hG ρ h1 h2 h3 h4 h5 => ?_; have f117 : ρ (.tmp 117) = (.bool p20) := h4 20 117 rfl rfl; rotate_left
   all_goals (clear h4 h5; unfold OpY; go_simp; exact ⟨rfl, hG.out⟩)
  case hdone =>
   intro w' hG
   have HBF := hid (ext_trans HB4.out hG)
   clear hG e1
   go_wp2_with fail
   all_goals (go_ret; exact ⟨by rw [HQ.out, HR5.out]; try rfl, HBF.out⟩)
 ·as_aux_lemma =>
  go_wp2_with fail
  obtain ⟨q4, hq4⟩ : ∃ q : Bool, ((A.last == 4)) = q := ⟨_, rfl⟩
  have HQ4 := hid hq4
  obtain ⟨p5, hp5⟩ : ∃ p : Bool, p = (rd || q4) := ⟨_, rfl⟩
  have HP5 := hid hp5
  obtain ⟨q12, hq12⟩ : ∃ q : Bool, (decide ((lastI A.locked) < at_)) = q := ⟨_, rfl⟩
  have HQ12 := hid hq12
  obtain ⟨p13, hp13⟩ : ∃ p : Bool, p = (p5 && q12) := ⟨_, rfl⟩
  have HP13 := hid hp13
  obtain ⟨q16, hq16⟩ : ∃ q : Bool, (decide ((ownV l.reverse at_) < 0)) = q := ⟨_, rfl⟩
  have HQ16 := hid hq16
  obtain ⟨p17, hp17⟩ : ∃ p : Bool, p = (p13 && q16) := ⟨_, rfl⟩
  have HP17 := hid hp17
  have HR5 : Hid (mayK S l.reverse ⟨4, th, tx, at_, v, x, why⟩ A = p17) := hid (by
   unfold mayK readsA
   rw [hp17, hp13, hp5]
   try simp only [← hq4, ← hq12, ← hq16, ← HRD.out, ← HCK.out, ← HOT.out]
   rw [Bool.eq_iff_iff]
   simp
   all_goals (try (intros; omega)))
  clear hq4 hp5 hq12 hp13 hq16 hp17
  apply wp_region_known (fun qq => ([(.bool rd), (.bool rd), (WF rd (.pointer (some ⟨w2.heap.size, 9, none⟩))), (WF rd (.int .u8 A.last)), (WF rd (.bool q4)), (.bool p5), (.bool p5), (WT p5 (.pointer (some ⟨w.heap.size, 3, none⟩))), (WT p5 (.int .i64 at_)), (WT p5 (.pointer (some ⟨w2.heap.size, 4, none⟩))), (WT p5 (.slice pl A.locked.length cl)), (WT p5 (.int .i64 (lastI A.locked))), (WT p5 (.bool q12)), (.bool p13), (.bool p13), (WT p13 (.int .i64 (ownV l.reverse at_))), (WT p13 (.bool q16)), (.bool p17), (.bool p17)] : List Value).getD qq undef) (fun w' => Below w4.heap.size w4 w')
  focus (simp [putAll, dstOf, Act.put, List.getD]; rfl)
  case hm => kernel_rfl
  case hd => kernel_rfl
  case hb => kernel_rfl
  case hng => kernel_rfl
  case hsz => kernel_rfl
  case h0 => exact ext_drew (ext_refl _)
  case hstep =>
   refine ⟨?_, ?_, ?_, ?_, ?_, ?_, ?_, ?_, ?_, ?_, ?_, ?_, ?_, ?_, ?_, ?_, ?_, ?_, ?_, trivial⟩
   refine skU rfl fun w' hG ρ h1 h2 h3 h4 h5 => ?_; have f12 : ρ (.tmp 12) = .bool rd := h5 12 rfl; rotate_left
   refine skU rfl fun w' hG ρ h1 h2 h3 h4 h5 => ?_; have f157 : ρ (.tmp 157) = (.bool rd) := h4 0 157 rfl rfl; rotate_left
   refine skF (s := rd) (x := (.pointer (some ⟨w2.heap.size, 9, none⟩))) rfl rfl rfl fun hs w' hG ρ h1 h2 h3 h4 h5 => ?_; subst hs; have f11 : ρ (.tmp 11) = .pointer (some ⟨w2.heap.size, 0, none⟩) := h5 11 rfl; rotate_left
   refine skF (s := rd) (x := (.int .u8 A.last)) rfl rfl rfl fun hs w' hG ρ h1 h2 h3 h4 h5 => ?_; subst hs; have f159 : ρ (.tmp 159) = (.pointer (some ⟨w2.heap.size, 9, none⟩)) := h4 2 159 rfl rfl; have c := (HK4.out.below hG.out).cell 9 (v := .int .u8 A.last) rfl; rotate_left
   ·refine skF (s := rd) (x := (.bool q4)) rfl rfl rfl fun hs w' hG ρ h1 h2 h3 h4 h5 => ?_; subst hs; have f160 : ρ (.tmp 160) = (.int .u8 A.last) := h4 3 160 rfl rfl; clear h4 h5; unfold OpY; go_simp; exact ⟨congrArg Value.bool HQ4.out, hG.out⟩
   ·refine skU rfl fun w' hG ρ h1 h2 h3 h4 h5 => ?_; have f158 : ρ (.tmp 158) = (.bool rd) := h4 1 158 rfl rfl; have f161 : ρ (.tmp 161) = (WF rd (.bool q4)) := h4 4 161 rfl rfl; have e5 := HP5.out; cases rd <;> simp only [Bool.false_and, Bool.true_and, Bool.true_or, Bool.false_or] at e5 <;> subst e5; all_goals (try dsimp only [WF, WT] at *; clear h4 h5; unfold OpY; go_simp; exact ⟨rfl, hG.out⟩)
   refine skU rfl fun w' hG ρ h1 h2 h3 h4 h5 => ?_; have f162 : ρ (.tmp 162) = (.bool p5) := h4 5 162 rfl rfl; rotate_left
   refine skT (s := p5) (x := (.pointer (some ⟨w.heap.size, 3, none⟩))) rfl rfl rfl fun hs w' hG ρ h1 h2 h3 h4 h5 => ?_; subst hs; have f6 : ρ (.tmp 6) = .pointer (some ⟨w.heap.size, 0, none⟩) := h5 6 rfl; rotate_left
   refine skT (s := p5) (x := (.int .i64 at_)) rfl rfl rfl fun hs w' hG ρ h1 h2 h3 h4 h5 => ?_; subst hs; have f164 : ρ (.tmp 164) = (.pointer (some ⟨w.heap.size, 3, none⟩)) := h4 7 164 rfl rfl; have c := (HE4.out.below hG.out).cell 3 (v := .int .i64 at_) rfl; rotate_left
   refine skT (s := p5) (x := (.pointer (some ⟨w2.heap.size, 4, none⟩))) rfl rfl rfl fun hs w' hG ρ h1 h2 h3 h4 h5 => ?_; subst hs; have f11 : ρ (.tmp 11) = .pointer (some ⟨w2.heap.size, 0, none⟩) := h5 11 rfl; rotate_left
   refine skT (s := p5) (x := (.slice pl A.locked.length cl)) rfl rfl rfl fun hs w' hG ρ h1 h2 h3 h4 h5 => ?_; subst hs; have f166 : ρ (.tmp 166) = (.pointer (some ⟨w2.heap.size, 4, none⟩)) := h4 9 166 rfl rfl; have c := (HK4.out.below hG.out).cell 4 (v := .slice pl A.locked.length cl) rfl; rotate_left
   ·refine skT (s := p5) (x := (.int .i64 (lastI A.locked))) rfl rfl rfl fun hs w' hG ρ h1 h2 h3 h4 h5 => ?_; subst hs; have f167 : ρ (.tmp 167) = (.slice pl A.locked.length cl) := h4 10 167 rfl rfl; clear h4 h5; unfold OpY; go_simp; unfold OpR; refine (last_any A.locked _ _ ((HR4.out.rl.rdL).below hG.out) (by have h1 := HLN.out.l; rw [List.length_reverse] at h1; have := HLEN.out; omega)).mono ?_; rintro e' w1 ⟨rfl, rfl⟩; exact ⟨_, rfl, rfl, hG.out⟩
   ·refine skT (s := p5) (x := (.bool q12)) rfl rfl rfl fun hs w' hG ρ h1 h2 h3 h4 h5 => ?_; subst hs; have f165 : ρ (.tmp 165) = (.int .i64 at_) := h4 8 165 rfl rfl; have f168 : ρ (.tmp 168) = (.int .i64 (lastI A.locked)) := h4 11 168 rfl rfl; clear h4 h5; unfold OpY; go_simp; exact ⟨congrArg Value.bool HQ12.out, hG.out⟩
   ·refine skU rfl fun w' hG ρ h1 h2 h3 h4 h5 => ?_; have f163 : ρ (.tmp 163) = (.bool p5) := h4 6 163 rfl rfl; have f169 : ρ (.tmp 169) = (WT p5 (.bool q12)) := h4 12 169 rfl rfl; have e5 := HP13.out; cases p5 <;> simp only [Bool.false_and, Bool.true_and, Bool.true_or, Bool.false_or] at e5 <;> subst e5; all_goals (try dsimp only [WF, WT] at *; clear h4 h5; unfold OpY; go_simp; exact ⟨rfl, hG.out⟩)
   refine skU rfl fun w' hG ρ h1 h2 h3 h4 h5 => ?_; have f170 : ρ (.tmp 170) = (.bool p13) := h4 13 170 rfl rfl; rotate_left
   refine skT (s := p13) (x := (.int .i64 (ownV l.reverse at_))) rfl rfl rfl fun hs w' hG ρ h1 h2 h3 h4 h5 => ?_; subst hs; have f14 : ρ (.tmp 14) = .int .i64 (ownV l.reverse at_) := h5 14 rfl; rotate_left
   ·refine skT (s := p13) (x := (.bool q16)) rfl rfl rfl fun hs w' hG ρ h1 h2 h3 h4 h5 => ?_; subst hs; have f172 : ρ (.tmp 172) = (.int .i64 (ownV l.reverse at_)) := h4 15 172 rfl rfl; clear h4 h5; unfold OpY; go_simp; exact ⟨congrArg Value.bool HQ16.out, hG.out⟩
   ·refine skU rfl fun w' hG ρ h1 h2 h3 h4 h5 => ?_; have f171 : ρ (.tmp 171) = (.bool p13) := h4 14 171 rfl rfl; have f173 : ρ (.tmp 173) = (WT p13 (.bool q16)) := h4 16 173 rfl rfl; have e5 := HP17.out; cases p13 <;> simp only [Bool.false_and, Bool.true_and, Bool.true_or, Bool.false_or] at e5 <;> subst e5; all_goals (try dsimp only [WF, WT] at *; clear h4 h5; unfold OpY; go_simp; exact ⟨rfl, hG.out⟩)
   refine skU rfl fun w' hG ρ h1 h2 h3 h4 h5 => ?_; have f174 : ρ (.tmp 174) = (.bool p17) := h4 17 174 rfl rfl; rotate_left
   all_goals (clear h4 h5; unfold OpY; go_simp; exact ⟨rfl, hG.out⟩)
  case hdone =>
   intro w' hG
   have HBF := hid (ext_trans HB4.out hG)
   clear hG e1
   go_wp2_with fail
   all_goals (go_ret; exact ⟨by rw [HQ.out, HR5.out]; try rfl, HBF.out⟩)
 ·as_aux_lemma =>
  go_wp2_with fail
  obtain ⟨q2, hq2⟩ : ∃ q : Bool, ((A.last == 4)) = q := ⟨_, rfl⟩
  have HQ2 := hid hq2
  obtain ⟨q8, hq8⟩ : ∃ q : Bool, (decide ((clkV l.reverse) < v)) = q := ⟨_, rfl⟩
  have HQ8 := hid hq8
  obtain ⟨p9, hp9⟩ : ∃ p : Bool, p = (q2 && q8) := ⟨_, rfl⟩
  have HP9 := hid hp9
  have HR5 : Hid (mayK S l.reverse ⟨5, th, tx, at_, v, x, why⟩ A = p9) := hid (by
   unfold mayK
   rw [hp9]
   try simp only [← hq2, ← hq8, ← HRD.out, ← HCK.out, ← HOT.out]
   rw [Bool.eq_iff_iff]
   simp
   all_goals (try (intros; omega)))
  clear hq2 hq8 hp9
  apply wp_region_known (fun qq => ([(.pointer (some ⟨w2.heap.size, 9, none⟩)), (.int .u8 A.last), (.bool q2), (.bool q2), (WT q2 (.pointer (some ⟨w.heap.size, 4, none⟩))), (WT q2 (.int .i64 v)), (WT q2 (.slice a n cap)), (WT q2 (.int .i64 (clkV l.reverse))), (WT q2 (.bool q8)), (.bool p9), (.bool p9)] : List Value).getD qq undef) (fun w' => Below w4.heap.size w4 w')
  focus (simp [putAll, dstOf, Act.put, List.getD]; rfl)
  case hm => kernel_rfl
  case hd => kernel_rfl
  case hb => kernel_rfl
  case hng => kernel_rfl
  case hsz => kernel_rfl
  case h0 => exact ext_drew (ext_refl _)
  case hstep =>
   refine ⟨?_, ?_, ?_, ?_, ?_, ?_, ?_, ?_, ?_, ?_, ?_, trivial⟩
   refine skU rfl fun w' hG ρ h1 h2 h3 h4 h5 => ?_; have f11 : ρ (.tmp 11) = .pointer (some ⟨w2.heap.size, 0, none⟩) := h5 11 rfl; rotate_left
   refine skU rfl fun w' hG ρ h1 h2 h3 h4 h5 => ?_; have f177 : ρ (.tmp 177) = (.pointer (some ⟨w2.heap.size, 9, none⟩)) := h4 0 177 rfl rfl; have c := (HK4.out.below hG.out).cell 9 (v := .int .u8 A.last) rfl; rotate_left
   ·refine skU rfl fun w' hG ρ h1 h2 h3 h4 h5 => ?_; have f178 : ρ (.tmp 178) = (.int .u8 A.last) := h4 1 178 rfl rfl; clear h4 h5; unfold OpY; go_simp; exact ⟨congrArg Value.bool HQ2.out, hG.out⟩
   refine skU rfl fun w' hG ρ h1 h2 h3 h4 h5 => ?_; have f179 : ρ (.tmp 179) = (.bool q2) := h4 2 179 rfl rfl; rotate_left
   refine skT (s := q2) (x := (.pointer (some ⟨w.heap.size, 4, none⟩))) rfl rfl rfl fun hs w' hG ρ h1 h2 h3 h4 h5 => ?_; subst hs; have f6 : ρ (.tmp 6) = .pointer (some ⟨w.heap.size, 0, none⟩) := h5 6 rfl; rotate_left
   refine skT (s := q2) (x := (.int .i64 v)) rfl rfl rfl fun hs w' hG ρ h1 h2 h3 h4 h5 => ?_; subst hs; have f181 : ρ (.tmp 181) = (.pointer (some ⟨w.heap.size, 4, none⟩)) := h4 4 181 rfl rfl; have c := (HE4.out.below hG.out).cell 4 (v := .int .i64 v) rfl; rotate_left
   refine skT (s := q2) (x := (.slice a n cap)) rfl rfl rfl fun hs w' hG ρ h1 h2 h3 h4 h5 => ?_; subst hs; have f0 : ρ (.tmp 0) = .slice a n cap := h5 0 rfl; rotate_left
   ·refine skT (s := q2) (x := (.int .i64 (clkV l.reverse))) rfl rfl rfl fun hs w' hG ρ h1 h2 h3 h4 h5 => ?_; subst hs; have f183 : ρ (.tmp 183) = (.slice a n cap) := h4 6 183 rfl rfl; clear h4 h5; unfold OpY; go_simp; unfold OpR; refine (HCLK.out _ (ext_trans HB4.out hG.out)).mono ?_; rintro e' w1 ⟨rfl, rfl⟩; exact ⟨_, rfl, rfl, hG.out⟩
   ·refine skT (s := q2) (x := (.bool q8)) rfl rfl rfl fun hs w' hG ρ h1 h2 h3 h4 h5 => ?_; subst hs; have f182 : ρ (.tmp 182) = (.int .i64 v) := h4 5 182 rfl rfl; have f184 : ρ (.tmp 184) = (.int .i64 (clkV l.reverse)) := h4 7 184 rfl rfl; clear h4 h5; unfold OpY; go_simp; exact ⟨congrArg Value.bool HQ8.out, hG.out⟩
   ·refine skU rfl fun w' hG ρ h1 h2 h3 h4 h5 => ?_; have f180 : ρ (.tmp 180) = (.bool q2) := h4 3 180 rfl rfl; have f185 : ρ (.tmp 185) = (WT q2 (.bool q8)) := h4 8 185 rfl rfl; have e5 := HP9.out; cases q2 <;> simp only [Bool.false_and, Bool.true_and, Bool.true_or, Bool.false_or] at e5 <;> subst e5; all_goals (try dsimp only [WF, WT] at *; clear h4 h5; unfold OpY; go_simp; exact ⟨rfl, hG.out⟩)
   refine skU rfl fun w' hG ρ h1 h2 h3 h4 h5 => ?_; have f186 : ρ (.tmp 186) = (.bool p9) := h4 9 186 rfl rfl; rotate_left
   all_goals (clear h4 h5; unfold OpY; go_simp; exact ⟨rfl, hG.out⟩)
  case hdone =>
   intro w' hG
   have HBF := hid (ext_trans HB4.out hG)
   clear hG e1
   go_wp2_with fail
   all_goals (go_ret; exact ⟨by rw [HQ.out, HR5.out]; try rfl, HBF.out⟩)
 ·as_aux_lemma =>
  have HR5 : Hid (mayK S l.reverse ⟨12, th, tx, at_, v, x, why⟩ A = rd) := hid (by
   unfold mayK readsA
   try simp only [← HRD.out, ← HCK.out, ← HOT.out]
   rw [Bool.eq_iff_iff]
   simp
   all_goals (try (intros; omega)))
  go_wp2_with fail
  go_ret
  exact ⟨by rw [HQ.out, HR5.out]; try rfl, HB4.out⟩
 ·as_aux_lemma =>
  by_cases hv : v = 0
  ·subst hv
   have HR5 : Hid (mayK S l.reverse ⟨7, th, tx, at_, 0, x, why⟩ A = rd) := hid (by
    unfold mayK readsA
    try simp only [← HRD.out, ← HCK.out, ← HOT.out]
    rw [Bool.eq_iff_iff]
    simp
    all_goals (try (intros; omega)))
   have e4 := HE4.out.cell 4 (v := .int .i64 0) rfl
   go_wp2_with fail
   go_ret
   exact ⟨by rw [HQ.out, HR5.out]; try rfl, HB4.out⟩
  ·have nv : (v == 0) = false := by simpa using hv
   obtain ⟨q1, hq1⟩ : ∃ q : Bool, ((((leftA A).length : Nat) : Int) == 0) = q := ⟨_, rfl⟩
   obtain ⟨q2, hq2⟩ : ∃ q : Bool, (v == A.wv) = q := ⟨_, rfl⟩
   have HR5 : Hid (mayK S l.reverse ⟨7, th, tx, at_, v, x, why⟩ A = (ck && q1 && q2)) := hid (by unfold mayK checksA; rw [← hq1, ← hq2, ← HCK.out, Bool.eq_iff_iff]; simp [hv])
   clear hv
   have g0 := HK4.out.cell 0 (v := .slice pL A.L.length cL) rfl
   have g1 := HK4.out.cell 1 (v := .int .i64 A.rv) rfl
   have g2 := HK4.out.cell 2 (v := .int .i64 A.wv) rfl
   have g3 := HK4.out.cell 3 (v := .slice pr A.read.length cr) rfl
   have g4 := HK4.out.cell 4 (v := .slice pl A.locked.length cl) rfl
   have g5 := HK4.out.cell 5 (v := .slice pf A.freed.length cf) rfl
   have g6 := HK4.out.cell 6 (v := .int .i64 (A.checked : Int)) rfl
   have g7 := HK4.out.cell 7 (v := .slice ps A.stored.length cs) rfl
   have g8 := HK4.out.cell 8 (v := .int .u8 A.why) rfl
   have g9 := HK4.out.cell 9 (v := .int .u8 A.last) rfl
   have e4 := HE4.out.cell 4 (v := .int .i64 v) rfl
   cases ck
   ·go_wp2_with fail
    all_goals (go_ret; exact ⟨by rw [HQ.out, HR5.out]; try rfl, HB4.out⟩)
   ·go_wp2_with fail
    refine (left_any A pL pr pl pf ps cL cr cl cf cs _ ⟨(by have := HNN.out; show _ ≤ A.rv; omega), HNN.out.2⟩ HGA.out.2.1 (show A.read.length ≤ 1048576 from by have h1 := HLN.out.r; rw [List.length_reverse] at h1; have := HLEN.out; omega) HR4.out.rr.rdL).mono ?_
    rintro e' w5 ⟨pq, cq, rfl, hb5, hq5⟩
    have HQ5 := hid hq5
    have HE5 := hid (HE4.out.below hb5)
    have HK5 := hid (HK4.out.below hb5)
    have HB5 := hid (ext_trans HB4.out hb5)
    clear hb5 hq5 HE4 HK4 HB4 HR4 g0 g1 g2 g3 g4 g5 g6 g7 g8 g9
    have HE4 := HE5
    have HK4 := HK5
    have HB4 := HB5
    clear HE5 HK5 HB5
    have e4 := HE4.out.cell 4 (v := .int .i64 v) rfl
    have k2 := HK4.out.cell 2 (v := .int .i64 A.wv) rfl
    cases q1 <;> (go_wp2_with fail; all_goals (go_ret; exact ⟨by rw [HQ.out, HR5.out]; simp [hq1, hq2], HB4.out⟩))
 ·as_aux_lemma =>
  have g0 := HK4.out.cell 0 (v := .slice pL A.L.length cL) rfl
  have g1 := HK4.out.cell 1 (v := .int .i64 A.rv) rfl
  have g2 := HK4.out.cell 2 (v := .int .i64 A.wv) rfl
  have g3 := HK4.out.cell 3 (v := .slice pr A.read.length cr) rfl
  have g4 := HK4.out.cell 4 (v := .slice pl A.locked.length cl) rfl
  have g5 := HK4.out.cell 5 (v := .slice pf A.freed.length cf) rfl
  have g6 := HK4.out.cell 6 (v := .int .i64 (A.checked : Int)) rfl
  have g7 := HK4.out.cell 7 (v := .slice ps A.stored.length cs) rfl
  have g8 := HK4.out.cell 8 (v := .int .u8 A.why) rfl
  have g9 := HK4.out.cell 9 (v := .int .u8 A.last) rfl
  go_wp2_with fail
  clear e1
  refine (left_any A pL pr pl pf ps cL cr cl cf cs _ ⟨(by have := HNN.out; show _ ≤ A.rv; omega), HNN.out.2⟩ HGA.out.2.1 (show A.read.length ≤ 1048576 from by have h1 := HLN.out.r; rw [List.length_reverse] at h1; have := HLEN.out; omega) HR4.out.rr.rdL).mono ?_
  rintro e' w5 ⟨pq, cq, rfl, hb5, hq5⟩
  have HQ5 := hid hq5
  have HE5 := hid (HE4.out.below hb5)
  have HK5 := hid (HK4.out.below hb5)
  have HB5 := hid (ext_trans HB4.out hb5)
  clear hb5 hq5 HE4 HK4 HB4 HR4 g0 g1 g2 g3 g4 g5 g6 g7 g8 g9
  have HE4 := HE5
  have HK4 := HK5
  have HB4 := HB5
  clear HE5 HK5 HB5
  rcases hlf : leftA A with _ | ⟨y, ys⟩
  ·have HR5 : Hid (mayK S l.reverse ⟨6, th, tx, at_, v, x, why⟩ A = false) := hid (by unfold mayK; simp [hlf, headB])
   rw [List.length_nil]
   clear hlf HQ5
   cases ck
   all_goals (go_wp2_with fail; go_quiet (fail); go_wp2_with fail; all_goals (go_ret; exact ⟨by rw [HQ.out, HR5.out]; try rfl, ext_drewN HB4.out _⟩))
  ·skip
   obtain ⟨lb, lo, rfl, hcy⟩ := HQ5.out (by rw [hlf]; simp)
   have HCY := hid (hcy y (by rw [hlf]; rfl))
   have hhd : headB (leftA A) at_ = (y == at_) := by unfold headB; rw [hlf, List.head?_cons, Bool.eq_iff_iff, decide_eq_true_eq, beq_iff_eq]; exact ⟨fun h => Option.some.inj h, fun h => by rw [h]⟩
   obtain ⟨N, hN⟩ : ∃ N, N = (y :: ys).length := ⟨_, rfl⟩
   have hN1 : N = ys.length + 1 := by rw [hN]; rfl
   rw [← hN]
   have JN := hid (show decide ((0 : Int) < (N : Int)) = true ∧ (0 : Int) < (N : Int) ∧ 0 < N from ⟨decide_eq_true (by omega), by omega, by omega⟩)
   clear hcy hN hN1 hlf HQ5
   go_wp2_with fail
   obtain ⟨p5, hp5⟩ : ∃ p : Bool, p = (ck && true) := ⟨_, rfl⟩
   have HP5 := hid hp5
   obtain ⟨q12, hq12⟩ : ∃ q : Bool, ((y == at_)) = q := ⟨_, rfl⟩
   have HQ12 := hid hq12
   obtain ⟨p13, hp13⟩ : ∃ p : Bool, p = (p5 && q12) := ⟨_, rfl⟩
   have HP13 := hid hp13
   obtain ⟨q16, hq16⟩ : ∃ q : Bool, (!ot) = q := ⟨_, rfl⟩
   have HQ16 := hid hq16
   obtain ⟨p17, hp17⟩ : ∃ p : Bool, p = (p13 && q16) := ⟨_, rfl⟩
   have HP17 := hid hp17
   obtain ⟨q25, hq25⟩ : ∃ q : Bool, (decide ((verV l.reverse at_) ≤ A.rv)) = q := ⟨_, rfl⟩
   have HQ25 := hid hq25
   obtain ⟨p26, hp26⟩ : ∃ p : Bool, p = (p17 && q25) := ⟨_, rfl⟩
   have HP26 := hid hp26
   have HR5 : Hid (mayK S l.reverse ⟨6, th, tx, at_, v, x, why⟩ A = p26) := hid (by
    unfold mayK checksA otherR
    rw [hp26, hp17, hp13, hp5]
    try simp only [← hq12, ← hq16, ← hq25, ← HRD.out, ← HCK.out, ← HOT.out]
    rw [Bool.eq_iff_iff]
    simp [hhd]
    all_goals (try (intros; omega)))
   clear hp5 hq12 hp13 hq16 hp17 hq25 hp26 hhd
   apply wp_region_known (fun qq => ([(.bool ck), (.bool ck), (WT ck (.slice (some ⟨lb, lo, none⟩) N cq)), (WT ck (.int .i64 ((N : Nat) : Int))), (WT ck (.bool true)), (.bool p5), (.bool p5), (WT p5 (.slice (some ⟨lb, lo, none⟩) N cq)), (WT p5 (.pointer (some ⟨lb, lo, none⟩))), (WT p5 (.int .i64 y)), (WT p5 (.pointer (some ⟨w.heap.size, 3, none⟩))), (WT p5 (.int .i64 at_)), (WT p5 (.bool q12)), (.bool p13), (.bool p13), (WT p13 (.bool ot)), (WT p13 (.bool q16)), (.bool p17), (.bool p17), (WT p17 (.slice a n cap)), (WT p17 (.pointer (some ⟨w.heap.size, 3, none⟩))), (WT p17 (.int .i64 at_)), (WT p17 (.int .i64 (verV l.reverse at_))), (WT p17 (.pointer (some ⟨w2.heap.size, 1, none⟩))), (WT p17 (.int .i64 A.rv)), (WT p17 (.bool q25)), (.bool p26), (.bool p26)] : List Value).getD qq undef) (fun w' => Below w5.heap.size w5 w')
   focus (simp [putAll, dstOf, Act.put, List.getD]; rfl)
   case hm => kernel_rfl
   case hd => kernel_rfl
   case hb => kernel_rfl
   case hng => kernel_rfl
   case hsz => kernel_rfl
   case h0 => exact ext_drew (ext_refl _)
   case hstep =>
    refine ⟨?_, ?_, ?_, ?_, ?_, ?_, ?_, ?_, ?_, ?_, ?_, ?_, ?_, ?_, ?_, ?_, ?_, ?_, ?_, ?_, ?_, ?_, ?_, ?_, ?_, ?_, ?_, ?_, trivial⟩
    refine skU rfl fun w' hG ρ h1 h2 h3 h4 h5 => ?_; have f13 : ρ (.tmp 13) = .bool ck := h5 13 rfl; rotate_left
    refine skU rfl fun w' hG ρ h1 h2 h3 h4 h5 => ?_; have f191 : ρ (.tmp 191) = (.bool ck) := h4 0 191 rfl rfl; rotate_left
    refine skT (s := ck) (x := (.slice (some ⟨lb, lo, none⟩) N cq)) rfl rfl rfl fun hs w' hG ρ h1 h2 h3 h4 h5 => ?_; subst hs; have f18 : ρ (.tmp 18) = .slice (some ⟨lb, lo, none⟩) N cq := h5 18 rfl; rotate_left
    refine skT (s := ck) (x := (.int .i64 ((N : Nat) : Int))) rfl rfl rfl fun hs w' hG ρ h1 h2 h3 h4 h5 => ?_; subst hs; have f193 : ρ (.tmp 193) = (.slice (some ⟨lb, lo, none⟩) N cq) := h4 2 193 rfl rfl; rotate_left
    refine skT (s := ck) (x := (.bool true)) rfl rfl rfl fun hs w' hG ρ h1 h2 h3 h4 h5 => ?_; subst hs; have f194 : ρ (.tmp 194) = (.int .i64 ((N : Nat) : Int)) := h4 3 194 rfl rfl; obtain ⟨y1, y2, y3⟩ := JN.out; rotate_left
    ·refine skU rfl fun w' hG ρ h1 h2 h3 h4 h5 => ?_; have f192 : ρ (.tmp 192) = (.bool ck) := h4 1 192 rfl rfl; have f195 : ρ (.tmp 195) = (WT ck (.bool true)) := h4 4 195 rfl rfl; have e5 := HP5.out; cases ck <;> simp only [Bool.false_and, Bool.true_and, Bool.true_or, Bool.false_or] at e5 <;> subst e5; all_goals (try dsimp only [WF, WT] at *; clear h4 h5; unfold OpY; go_simp; exact ⟨rfl, hG.out⟩)
    refine skU rfl fun w' hG ρ h1 h2 h3 h4 h5 => ?_; have f196 : ρ (.tmp 196) = (.bool p5) := h4 5 196 rfl rfl; rotate_left
    refine skT (s := p5) (x := (.slice (some ⟨lb, lo, none⟩) N cq)) rfl rfl rfl fun hs w' hG ρ h1 h2 h3 h4 h5 => ?_; subst hs; have f18 : ρ (.tmp 18) = .slice (some ⟨lb, lo, none⟩) N cq := h5 18 rfl; rotate_left
    refine skT (s := p5) (x := (.pointer (some ⟨lb, lo, none⟩))) rfl rfl rfl fun hs w' hG ρ h1 h2 h3 h4 h5 => ?_; subst hs; have f198 : ρ (.tmp 198) = (.slice (some ⟨lb, lo, none⟩) N cq) := h4 7 198 rfl rfl; obtain ⟨y1, y2, y3⟩ := JN.out; rotate_left
    refine skT (s := p5) (x := (.int .i64 y)) rfl rfl rfl fun hs w' hG ρ h1 h2 h3 h4 h5 => ?_; subst hs; have f199 : ρ (.tmp 199) = (.pointer (some ⟨lb, lo, none⟩)) := h4 8 199 rfl rfl; have c := later hG.out HCY.out; rotate_left
    refine skT (s := p5) (x := (.pointer (some ⟨w.heap.size, 3, none⟩))) rfl rfl rfl fun hs w' hG ρ h1 h2 h3 h4 h5 => ?_; subst hs; have f6 : ρ (.tmp 6) = .pointer (some ⟨w.heap.size, 0, none⟩) := h5 6 rfl; rotate_left
    refine skT (s := p5) (x := (.int .i64 at_)) rfl rfl rfl fun hs w' hG ρ h1 h2 h3 h4 h5 => ?_; subst hs; have f201 : ρ (.tmp 201) = (.pointer (some ⟨w.heap.size, 3, none⟩)) := h4 10 201 rfl rfl; have c := (HE4.out.below hG.out).cell 3 (v := .int .i64 at_) rfl; rotate_left
    ·refine skT (s := p5) (x := (.bool q12)) rfl rfl rfl fun hs w' hG ρ h1 h2 h3 h4 h5 => ?_; subst hs; have f200 : ρ (.tmp 200) = (.int .i64 y) := h4 9 200 rfl rfl; have f202 : ρ (.tmp 202) = (.int .i64 at_) := h4 11 202 rfl rfl; clear h4 h5; unfold OpY; go_simp; exact ⟨congrArg Value.bool HQ12.out, hG.out⟩
    ·refine skU rfl fun w' hG ρ h1 h2 h3 h4 h5 => ?_; have f197 : ρ (.tmp 197) = (.bool p5) := h4 6 197 rfl rfl; have f203 : ρ (.tmp 203) = (WT p5 (.bool q12)) := h4 12 203 rfl rfl; have e5 := HP13.out; cases p5 <;> simp only [Bool.false_and, Bool.true_and, Bool.true_or, Bool.false_or] at e5 <;> subst e5; all_goals (try dsimp only [WF, WT] at *; clear h4 h5; unfold OpY; go_simp; exact ⟨rfl, hG.out⟩)
    refine skU rfl fun w' hG ρ h1 h2 h3 h4 h5 => ?_; have f204 : ρ (.tmp 204) = (.bool p13) := h4 13 204 rfl rfl; rotate_left
    refine skT (s := p13) (x := (.bool ot)) rfl rfl rfl fun hs w' hG ρ h1 h2 h3 h4 h5 => ?_; subst hs; have f15 : ρ (.tmp 15) = .bool ot := h5 15 rfl; rotate_left
    ·refine skT (s := p13) (x := (.bool q16)) rfl rfl rfl fun hs w' hG ρ h1 h2 h3 h4 h5 => ?_; subst hs; have f206 : ρ (.tmp 206) = (.bool ot) := h4 15 206 rfl rfl; clear h4 h5; unfold OpY; go_simp; exact ⟨congrArg Value.bool HQ16.out, hG.out⟩
    ·refine skU rfl fun w' hG ρ h1 h2 h3 h4 h5 => ?_; have f205 : ρ (.tmp 205) = (.bool p13) := h4 14 205 rfl rfl; have f207 : ρ (.tmp 207) = (WT p13 (.bool q16)) := h4 16 207 rfl rfl; have e5 := HP17.out; cases p13 <;> simp only [Bool.false_and, Bool.true_and, Bool.true_or, Bool.false_or] at e5 <;> subst e5; all_goals (try dsimp only [WF, WT] at *; clear h4 h5; unfold OpY; go_simp; exact ⟨rfl, hG.out⟩)
    refine skU rfl fun w' hG ρ h1 h2 h3 h4 h5 => ?_; have f208 : ρ (.tmp 208) = (.bool p17) := h4 17 208 rfl rfl; rotate_left
    refine skT (s := p17) (x := (.slice a n cap)) rfl rfl rfl fun hs w' hG ρ h1 h2 h3 h4 h5 => ?_; subst hs; have f0 : ρ (.tmp 0) = .slice a n cap := h5 0 rfl; rotate_left
    refine skT (s := p17) (x := (.pointer (some ⟨w.heap.size, 3, none⟩))) rfl rfl rfl fun hs w' hG ρ h1 h2 h3 h4 h5 => ?_; subst hs; have f6 : ρ (.tmp 6) = .pointer (some ⟨w.heap.size, 0, none⟩) := h5 6 rfl; rotate_left
    refine skT (s := p17) (x := (.int .i64 at_)) rfl rfl rfl fun hs w' hG ρ h1 h2 h3 h4 h5 => ?_; subst hs; have f211 : ρ (.tmp 211) = (.pointer (some ⟨w.heap.size, 3, none⟩)) := h4 20 211 rfl rfl; have c := (HE4.out.below hG.out).cell 3 (v := .int .i64 at_) rfl; rotate_left
    ·refine skT (s := p17) (x := (.int .i64 (verV l.reverse at_))) rfl rfl rfl fun hs w' hG ρ h1 h2 h3 h4 h5 => ?_; subst hs; have f210 : ρ (.tmp 210) = (.slice a n cap) := h4 19 210 rfl rfl; have f212 : ρ (.tmp 212) = (.int .i64 at_) := h4 21 212 rfl rfl; clear h4 h5; unfold OpY; go_simp; unfold OpR; refine (HVER.out _ (ext_trans HB4.out hG.out) at_).mono ?_; rintro e' w1 ⟨rfl, hb⟩; exact ⟨_, rfl, rfl, ext_trans hG.out hb⟩
    refine skT (s := p17) (x := (.pointer (some ⟨w2.heap.size, 1, none⟩))) rfl rfl rfl fun hs w' hG ρ h1 h2 h3 h4 h5 => ?_; subst hs; have f11 : ρ (.tmp 11) = .pointer (some ⟨w2.heap.size, 0, none⟩) := h5 11 rfl; rotate_left
    refine skT (s := p17) (x := (.int .i64 A.rv)) rfl rfl rfl fun hs w' hG ρ h1 h2 h3 h4 h5 => ?_; subst hs; have f214 : ρ (.tmp 214) = (.pointer (some ⟨w2.heap.size, 1, none⟩)) := h4 23 214 rfl rfl; have c := (HK4.out.below hG.out).cell 1 (v := .int .i64 A.rv) rfl; rotate_left
    ·refine skT (s := p17) (x := (.bool q25)) rfl rfl rfl fun hs w' hG ρ h1 h2 h3 h4 h5 => ?_; subst hs; have f213 : ρ (.tmp 213) = (.int .i64 (verV l.reverse at_)) := h4 22 213 rfl rfl; have f215 : ρ (.tmp 215) = (.int .i64 A.rv) := h4 24 215 rfl rfl; clear h4 h5; unfold OpY; go_simp; exact ⟨congrArg Value.bool HQ25.out, hG.out⟩
    ·refine skU rfl fun w' hG ρ h1 h2 h3 h4 h5 => ?_; have f209 : ρ (.tmp 209) = (.bool p17) := h4 18 209 rfl rfl; have f216 : ρ (.tmp 216) = (WT p17 (.bool q25)) := h4 25 216 rfl rfl; have e5 := HP26.out; cases p17 <;> simp only [Bool.false_and, Bool.true_and, Bool.true_or, Bool.false_or] at e5 <;> subst e5; all_goals (try dsimp only [WF, WT] at *; clear h4 h5; unfold OpY; go_simp; exact ⟨rfl, hG.out⟩)
    refine skU rfl fun w' hG ρ h1 h2 h3 h4 h5 => ?_; have f217 : ρ (.tmp 217) = (.bool p26) := h4 26 217 rfl rfl; rotate_left
    all_goals (clear h4 h5; unfold OpY; go_simp; exact ⟨rfl, hG.out⟩)
   case hdone =>
    intro w' hG
    have HBF := hid (ext_trans HB4.out hG)
    clear hG 
    go_wp2_with fail
    all_goals (go_ret; exact ⟨by rw [HQ.out, HR5.out]; try rfl, HBF.out⟩)
end Go.Proofs.YtcddlnmcjmhbcaaDoor
