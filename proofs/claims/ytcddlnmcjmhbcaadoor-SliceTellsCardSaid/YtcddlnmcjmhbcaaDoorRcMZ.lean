/-
 Walk of the document's checker: May at the Kinds 2, 4, 5, 12, 7, 6, 3, 8, 11, 9, 13, 10. (Printed: tools/gen_may.py.)
-/
import Derived.Test.YtcddlnmcjmhbcaaDoorRgH
namespace Go.Proofs.YtcddlnmcjmhbcaaDoor
set_option linter.unusedVariables false
set_option linter.unusedSimpArgs false
open Go Go.RowKit
set_option maxRecDepth 100000 in
set_option maxHeartbeats 40000000 in
theorem qH (a:Option Addr) (l:List Ev) (n cap:Nat) (kind th tx at_ v x why T V S:Int) (w:World) (G:Uh a l n cap ⟨kind,th,tx,at_,v,x,why⟩ T V S w) (hk:kind=2∨kind=4∨kind=5∨kind=12∨kind=7∨kind=6∨kind=3∨kind=8∨kind=11∨kind=9∨kind=13∨kind=10) (hwy:kind=10→1≤why∧why≤6):
  Calls Tryd.prog 24 #[.slice a n cap,jL ⟨kind,th,tx,at_,v,x,why⟩,.int .i64 T,.int .i64 V,.int .i64 S] w fun e' w'=>e'=.returned (.bool (yI S l.reverse ⟨kind,th,tx,at_,v,x,why⟩ (bC S th l.reverse)))∧Below w.heap.size w w':=by
 have ES:=hid G.jH
 have RG:=hid G.mine
 have HOW:=hid G.owner
 have Ih:=hid G.jD
 have UK:=hid G.clk
 have Xa:=hid G.com
 have HLEN:=hid G.len
 have RI:=hid G.good
 have UB:=hid G.n
 have HS:=hid G.s
 have HAT:=hid G.at0
 have HST:=hid G.st
 clear G
 have n1:(kind==1)=false:=by rw[beq_eq_false_iff_ne];omega
 have HKD:=hid hk
 clear hk
 have HWY:=hid hwy
 clear hwy
 unfold jL
 dsimp only at ES RG HAT HST⊢
 go_enter Tryd.func24,Tryd.ntmps24
 have hq:=aA.new w #[.int .u8 kind,.int .i64 th,.int .i64 tx,.int .i64 at_,.int .i64 v,.int .i64 x,.int .u8 why] 49
 have e0:=hq.cell 0 (v:=.int .u8 kind) rfl
 have e1:=hq.cell 1 (v:=.int .i64 th) rfl
 have e2:=hq.cell 2 (v:=.int .i64 tx) rfl
 have e3:=hq.cell 3 (v:=.int .i64 at_) rfl
 have e4:=hq.cell 4 (v:=.int .i64 v) rfl
 have e5:=hq.cell 5 (v:=.int .i64 x) rfl
 have e6:=hq.cell 6 (v:=.int .u8 why) rfl
 have WZ:=hid hq
 clear hq
 go_wp2_with fail
 refine(ES.out _ (ah (af _) _)).mono ?_
 rintro e' w1 ⟨rfl,hb1⟩
 have HB1:=hid (ag (ah (af w) (.cells #[.int .u8 kind,.int .i64 th,.int .i64 tx,.int .i64 at_,.int .i64 v,.int .i64 x,.int .u8 why] 49)) hb1)
 have OG:=hid (WZ.out.below hb1)
 clear hb1 e0 e1 e2 e3 e4 e5 e6 WZ
 have e1:=OG.out.cell 1 (v:=.int .i64 th) rfl
 go_wp2_with fail
 refine(RG.out _ HB1.out).mono ?_
 rintro e' w2 ⟨vL,vr,vl,vf,vs,rfl,hb2,hr2⟩
 obtain⟨pL,cL,pr,cr,pl,cl,pf,cf,ps,cs,rfl,rfl,rfl,rfl,rfl⟩:=hr2.shape
 have Bo:=hid (yF S th l.reverse)
 generalize hA:bC S th l.reverse=A at*
 have Jj:=hid hA
 clear hA
 have HE2:=hid ((OG.out.below hb2).alloc (.cells (kS A (.slice pL A.L.length cL) (.slice pr A.read.length cr) (.slice pl A.locked.length cl) (.slice pf A.freed.length cf) (.slice ps A.stored.length cs)) 95))
 have HB2:=hid (ah (ag HB1.out hb2) (.cells (kS A (.slice pL A.L.length cL) (.slice pr A.read.length cr) (.slice pl A.locked.length cl) (.slice pf A.freed.length cf) (.slice ps A.stored.length cs)) 95))
 have HR2:=hid (hr2.below (ah (af _) (.cells (kS A (.slice pL A.L.length cL) (.slice pr A.read.length cr) (.slice pl A.locked.length cl) (.slice pf A.freed.length cf) (.slice ps A.stored.length cs)) 95)))
 have hk:=aA.new w2 (kS A (.slice pL A.L.length cL) (.slice pr A.read.length cr) (.slice pl A.locked.length cl) (.slice pf A.freed.length cf) (.slice ps A.stored.length cs)) 95
 have tq:=hid hk
 have HEA:=hid (show w.heap.size < w2.heap.size from by have:=hb2.size;have:=HB1.out.size;have:=(OG.out).lt;omega)
 have k0:=hk.cell 0 (v:=.slice pL A.L.length cL) rfl
 have k1:=hk.cell 1 (v:=.int .i64 A.rv) rfl
 have k2:=hk.cell 2 (v:=.int .i64 A.wv) rfl
 have k3:=hk.cell 3 (v:=.slice pr A.read.length cr) rfl
 have k4:=hk.cell 4 (v:=.slice pl A.locked.length cl) rfl
 have k5:=hk.cell 5 (v:=.slice pf A.freed.length cf) rfl
 have k6:=hk.cell 6 (v:=.int .i64 (A.checked:Int)) rfl
 have k7:=hk.cell 7 (v:=.slice ps A.stored.length cs) rfl
 have k8:=hk.cell 8 (v:=.int .u8 A.why) rfl
 have k9:=hk.cell 9 (v:=.int .u8 A.last) rfl
 have e0:=HE2.out.cell 0 (v:=.int .u8 kind) rfl
 clear hk hb2 hr2 HB1 OG e1
 unfold kS at*
 go_wp2_with fail
 refine(uO A pL pr pl pf ps cL cr cl cf cs _).mono ?_
 rintro e' w3 ⟨rfl,hb3⟩
 have HE:=hid (HE2.out.below hb3)
 have HK:=hid (tq.out.below hb3)
 have HR:=hid (HR2.out.below hb3)
 have HB:=hid (ag HB2.out hb3)
 clear hb3 HE2 tq HR2 HB2 k0 k1 k2 k3 k4 k5 k6 k7 k8 k9 e0
 cases ho:dQ A
 case true=>
  have HQ:Hid (yI S l.reverse ⟨kind,th,tx,at_,v,x,why⟩ (bC S th l.reverse)=false):=hid (by rw[Jj.out];unfold yI;rw[if_neg (by simpa using n1),if_pos ho])
  clear ho
  go_wp2_with fail
  go_ret
  exact⟨by rw[HQ.out];try rfl,HB.out⟩
 have HQ:Hid (yI S l.reverse ⟨kind,th,tx,at_,v,x,why⟩ (bC S th l.reverse)=fQ S l.reverse ⟨kind,th,tx,at_,v,x,why⟩ A):=hid (by rw[Jj.out];unfold yI;rw[if_neg (by simpa using n1),if_neg (by rw[ho];simp)])
 have LD:=hid (RI.out ho)
 clear ho
 have e0:=HE.out.cell 0 (v:=.int .u8 kind) rfl
 have e1:=HE.out.cell 1 (v:=.int .i64 th) rfl
 have e3:=HE.out.cell 3 (v:=.int .i64 at_) rfl
 have k9:=HK.out.cell 9 (v:=.int .u8 A.last) rfl
 go_upto_region 8 with(fail)
 obtain⟨ra,hra⟩:∃ q:Bool,((A.last==1))=q:=⟨_,rfl⟩
 have HRA:=hid hra
 obtain⟨rb,hrb⟩:∃ q:Bool,((A.last==3))=q:=⟨_,rfl⟩
 have uC:=hid hrb
 obtain⟨rd,hrd⟩:∃ p:Bool,p=(ra||rb):=⟨_,rfl⟩
 have xG:=hid hrd
 have WR:Hid ((A.last==1||A.last==3)=rd):=hid (by rw[hrd,←hra,←hrb])
 clear hra hrb hrd
 apply kT (fun qq=>([(.pointer (some ⟨w2.heap.size,9,none⟩)),(.int .u8 A.last),(.bool ra),(.bool ra),(WF ra (.pointer (some ⟨w2.heap.size,9,none⟩))),(WF ra (.int .u8 A.last)),(WF ra (.bool rb)),(.bool rd),(.bool rd)]:List Value).getD qq undef) (fun w'=>Below w3.heap.size w3 w')
 focus (simp[ay,aB,Act.put,List.getD];rfl)
 case hd=>kernel_rfl
 case hb=>kernel_rfl
 case iR=>kernel_rfl
 case hsz=>kernel_rfl
 case h0=>exact af _
 case hstep=>
  refine⟨?_,?_,?_,?_,?_,?_,?_,?_,?_,trivial⟩
  refine dM rfl fun w' hG ρ h1 h2 h3 h4 h5=>?_;have f11:ρ (.tmp 11)=.pointer (some ⟨w2.heap.size,0,none⟩):=h5 11 rfl;rotate_left
  refine dM rfl fun w' hG ρ h1 h2 h3 h4 h5=>?_;have f65:ρ (.tmp 65)=(.pointer (some ⟨w2.heap.size,9,none⟩)):=h4 0 65 rfl rfl;have c:=(HK.out.below hG.out).cell 9 (v:=.int .u8 A.last) rfl;rotate_left
  ·refine dM rfl fun w' hG ρ h1 h2 h3 h4 h5=>?_;have f66:ρ (.tmp 66)=(.int .u8 A.last):=h4 1 66 rfl rfl;clear h4 h5;unfold aO;go_simp;exact⟨congrArg Value.bool HRA.out,hG.out⟩
  refine dM rfl fun w' hG ρ h1 h2 h3 h4 h5=>?_;have f67:ρ (.tmp 67)=(.bool ra):=h4 2 67 rfl rfl;rotate_left
  refine vI (s:=ra) (x:=(.pointer (some ⟨w2.heap.size,9,none⟩))) rfl rfl rfl fun hs w' hG ρ h1 h2 h3 h4 h5=>?_;subst hs;have f11:ρ (.tmp 11)=.pointer (some ⟨w2.heap.size,0,none⟩):=h5 11 rfl;rotate_left
  refine vI (s:=ra) (x:=(.int .u8 A.last)) rfl rfl rfl fun hs w' hG ρ h1 h2 h3 h4 h5=>?_;subst hs;have f69:ρ (.tmp 69)=(.pointer (some ⟨w2.heap.size,9,none⟩)):=h4 4 69 rfl rfl;have c:=(HK.out.below hG.out).cell 9 (v:=.int .u8 A.last) rfl;rotate_left
  ·refine vI (s:=ra) (x:=(.bool rb)) rfl rfl rfl fun hs w' hG ρ h1 h2 h3 h4 h5=>?_;subst hs;have f70:ρ (.tmp 70)=(.int .u8 A.last):=h4 5 70 rfl rfl;clear h4 h5;unfold aO;go_simp;exact⟨congrArg Value.bool uC.out,hG.out⟩
  ·refine dM rfl fun w' hG ρ h1 h2 h3 h4 h5=>?_;have f68:ρ (.tmp 68)=(.bool ra):=h4 3 68 rfl rfl;have f71:ρ (.tmp 71)=(WF ra (.bool rb)):=h4 6 71 rfl rfl;have e5:=xG.out;cases ra <;> simp only[Bool.false_and,Bool.true_and,Bool.true_or,Bool.false_or]at e5 <;> subst e5;all_goals (try dsimp only[WF,WT]at*;clear h4 h5;unfold aO;go_simp;exact⟨rfl,hG.out⟩)
  refine dM rfl fun w' hG ρ h1 h2 h3 h4 h5=>?_;have f72:ρ (.tmp 72)=(.bool rd):=h4 7 72 rfl rfl;rotate_left
  all_goals (clear h4 h5;unfold aO;go_simp;exact⟨rfl,hG.out⟩)
 case hdone=>
 intro w31 hG
 have OD:=hid (HE.out.below hG)
 have OA:=hid (HK.out.below hG)
 have Ov:=hid (HR.out.below hG)
 have OI:=hid (ag HB.out hG)
 clear hG HE HK HR HB e0 e1 e3 k9 HRA uC xG
 have HE:=OD
 have HK:=OA
 have HR:=Ov
 have HB:=OI
 clear OD OA Ov OI
 have e0:=HE.out.cell 0 (v:=.int .u8 kind) rfl
 have e1:=HE.out.cell 1 (v:=.int .i64 th) rfl
 have e3:=HE.out.cell 3 (v:=.int .i64 at_) rfl
 have k9:=HK.out.cell 9 (v:=.int .u8 A.last) rfl
 go_upto_region 9 with(fail)
 obtain⟨ca,hca⟩:∃ q:Bool,((A.last==5))=q:=⟨_,rfl⟩
 have HCA:=hid hca
 obtain⟨cb,hcb⟩:∃ q:Bool,((A.last==6))=q:=⟨_,rfl⟩
 have XR:=hid hcb
 obtain⟨ck,hck⟩:∃ p:Bool,p=(ca||cb):=⟨_,rfl⟩
 have uG:=hid hck
 have WV:Hid ((A.last==5||A.last==6)=ck):=hid (by rw[hck,←hca,←hcb])
 clear hca hcb hck
 apply kT (fun qq=>([(.pointer (some ⟨w2.heap.size,9,none⟩)),(.int .u8 A.last),(.bool ca),(.bool ca),(WF ca (.pointer (some ⟨w2.heap.size,9,none⟩))),(WF ca (.int .u8 A.last)),(WF ca (.bool cb)),(.bool ck),(.bool ck)]:List Value).getD qq undef) (fun w'=>Below w31.heap.size w31 w')
 focus (simp[ay,aB,Act.put,List.getD];rfl)
 case hd=>kernel_rfl
 case hb=>kernel_rfl
 case iR=>kernel_rfl
 case hsz=>kernel_rfl
 case h0=>exact af _
 case hstep=>
  refine⟨?_,?_,?_,?_,?_,?_,?_,?_,?_,trivial⟩
  refine dM rfl fun w' hG ρ h1 h2 h3 h4 h5=>?_;have f11:ρ (.tmp 11)=.pointer (some ⟨w2.heap.size,0,none⟩):=h5 11 rfl;rotate_left
  refine dM rfl fun w' hG ρ h1 h2 h3 h4 h5=>?_;have f73:ρ (.tmp 73)=(.pointer (some ⟨w2.heap.size,9,none⟩)):=h4 0 73 rfl rfl;have c:=(HK.out.below hG.out).cell 9 (v:=.int .u8 A.last) rfl;rotate_left
  ·refine dM rfl fun w' hG ρ h1 h2 h3 h4 h5=>?_;have f74:ρ (.tmp 74)=(.int .u8 A.last):=h4 1 74 rfl rfl;clear h4 h5;unfold aO;go_simp;exact⟨congrArg Value.bool HCA.out,hG.out⟩
  refine dM rfl fun w' hG ρ h1 h2 h3 h4 h5=>?_;have f75:ρ (.tmp 75)=(.bool ca):=h4 2 75 rfl rfl;rotate_left
  refine vI (s:=ca) (x:=(.pointer (some ⟨w2.heap.size,9,none⟩))) rfl rfl rfl fun hs w' hG ρ h1 h2 h3 h4 h5=>?_;subst hs;have f11:ρ (.tmp 11)=.pointer (some ⟨w2.heap.size,0,none⟩):=h5 11 rfl;rotate_left
  refine vI (s:=ca) (x:=(.int .u8 A.last)) rfl rfl rfl fun hs w' hG ρ h1 h2 h3 h4 h5=>?_;subst hs;have f77:ρ (.tmp 77)=(.pointer (some ⟨w2.heap.size,9,none⟩)):=h4 4 77 rfl rfl;have c:=(HK.out.below hG.out).cell 9 (v:=.int .u8 A.last) rfl;rotate_left
  ·refine vI (s:=ca) (x:=(.bool cb)) rfl rfl rfl fun hs w' hG ρ h1 h2 h3 h4 h5=>?_;subst hs;have f78:ρ (.tmp 78)=(.int .u8 A.last):=h4 5 78 rfl rfl;clear h4 h5;unfold aO;go_simp;exact⟨congrArg Value.bool XR.out,hG.out⟩
  ·refine dM rfl fun w' hG ρ h1 h2 h3 h4 h5=>?_;have f76:ρ (.tmp 76)=(.bool ca):=h4 3 76 rfl rfl;have f79:ρ (.tmp 79)=(WF ca (.bool cb)):=h4 6 79 rfl rfl;have e5:=uG.out;cases ca <;> simp only[Bool.false_and,Bool.true_and,Bool.true_or,Bool.false_or]at e5 <;> subst e5;all_goals (try dsimp only[WF,WT]at*;clear h4 h5;unfold aO;go_simp;exact⟨rfl,hG.out⟩)
  refine dM rfl fun w' hG ρ h1 h2 h3 h4 h5=>?_;have f80:ρ (.tmp 80)=(.bool ck):=h4 7 80 rfl rfl;rotate_left
  all_goals (clear h4 h5;unfold aO;go_simp;exact⟨rfl,hG.out⟩)
 case hdone=>
 intro w32 hG
 have OD:=hid (HE.out.below hG)
 have OA:=hid (HK.out.below hG)
 have Ov:=hid (HR.out.below hG)
 have OI:=hid (ag HB.out hG)
 clear hG HE HK HR HB e0 e1 e3 k9 HCA XR uG
 have HE:=OD
 have HK:=OA
 have HR:=Ov
 have HB:=OI
 clear OD OA Ov OI
 have e0:=HE.out.cell 0 (v:=.int .u8 kind) rfl
 have e1:=HE.out.cell 1 (v:=.int .i64 th) rfl
 have e3:=HE.out.cell 3 (v:=.int .i64 at_) rfl
 have k9:=HK.out.cell 9 (v:=.int .u8 A.last) rfl
 go_wp2_with fail
 refine(HOW.out _ HB.out at_).mono ?_
 rintro e' w33 ⟨rfl,hG⟩
 have OD:=hid (HE.out.below hG)
 have OA:=hid (HK.out.below hG)
 have Ov:=hid (HR.out.below hG)
 have OI:=hid (ag HB.out hG)
 clear hG HE HK HR HB e0 e1 e3 k9
 have HE:=OD
 have HK:=OA
 have HR:=Ov
 have HB:=OI
 clear OD OA Ov OI
 have e0:=HE.out.cell 0 (v:=.int .u8 kind) rfl
 have e1:=HE.out.cell 1 (v:=.int .i64 th) rfl
 have e3:=HE.out.cell 3 (v:=.int .i64 at_) rfl
 have k9:=HK.out.cell 9 (v:=.int .u8 A.last) rfl
 go_upto_region 11 with(fail)
 obtain⟨oa,hoa⟩:∃ q:Bool,(decide (0≤(dR l.reverse at_)))=q:=⟨_,rfl⟩
 have U8:=hid hoa
 obtain⟨ob,hob⟩:∃ q:Bool,(((dR l.reverse at_) !=th))=q:=⟨_,rfl⟩
 have HOB:=hid hob
 obtain⟨ot,hot⟩:∃ p:Bool,p=(oa&&ob):=⟨_,rfl⟩
 have Dt:=hid hot
 have WS:Hid ((decide (0≤dR l.reverse at_)&&(dR l.reverse at_ !=th))=ot):=hid (by rw[hot,←hoa,←hob])
 clear hoa hob hot
 apply kT (fun qq=>([(.int .i64 (dR l.reverse at_)),(.bool oa),(.bool oa),(WT oa (.int .i64 (dR l.reverse at_))),(WT oa (.pointer (some ⟨w.heap.size,1,none⟩))),(WT oa (.int .i64 th)),(WT oa (.bool ob)),(.bool ot),(.bool ot)]:List Value).getD qq undef) (fun w'=>Below w33.heap.size w33 w')
 focus (simp[ay,aB,Act.put,List.getD];rfl)
 case hd=>kernel_rfl
 case hb=>kernel_rfl
 case iR=>kernel_rfl
 case hsz=>kernel_rfl
 case h0=>exact af _
 case hstep=>
  refine⟨?_,?_,?_,?_,?_,?_,?_,?_,?_,trivial⟩
  refine dM rfl fun w' hG ρ h1 h2 h3 h4 h5=>?_;have f14:ρ (.tmp 14)=.int .i64 (dR l.reverse at_):=h5 14 rfl;rotate_left
  ·refine dM rfl fun w' hG ρ h1 h2 h3 h4 h5=>?_;have f85:ρ (.tmp 85)=(.int .i64 (dR l.reverse at_)):=h4 0 85 rfl rfl;clear h4 h5;unfold aO;go_simp;exact⟨congrArg Value.bool U8.out,hG.out⟩
  refine dM rfl fun w' hG ρ h1 h2 h3 h4 h5=>?_;have f86:ρ (.tmp 86)=(.bool oa):=h4 1 86 rfl rfl;rotate_left
  refine dh (s:=oa) (x:=(.int .i64 (dR l.reverse at_))) rfl rfl rfl fun hs w' hG ρ h1 h2 h3 h4 h5=>?_;subst hs;have f14:ρ (.tmp 14)=.int .i64 (dR l.reverse at_):=h5 14 rfl;rotate_left
  refine dh (s:=oa) (x:=(.pointer (some ⟨w.heap.size,1,none⟩))) rfl rfl rfl fun hs w' hG ρ h1 h2 h3 h4 h5=>?_;subst hs;have f6:ρ (.tmp 6)=.pointer (some ⟨w.heap.size,0,none⟩):=h5 6 rfl;rotate_left
  refine dh (s:=oa) (x:=(.int .i64 th)) rfl rfl rfl fun hs w' hG ρ h1 h2 h3 h4 h5=>?_;subst hs;have f89:ρ (.tmp 89)=(.pointer (some ⟨w.heap.size,1,none⟩)):=h4 4 89 rfl rfl;have c:=(HE.out.below hG.out).cell 1 (v:=.int .i64 th) rfl;rotate_left
  ·refine dh (s:=oa) (x:=(.bool ob)) rfl rfl rfl fun hs w' hG ρ h1 h2 h3 h4 h5=>?_;subst hs;have f88:ρ (.tmp 88)=(.int .i64 (dR l.reverse at_)):=h4 3 88 rfl rfl;have f90:ρ (.tmp 90)=(.int .i64 th):=h4 5 90 rfl rfl;clear h4 h5;unfold aO;go_simp;exact⟨congrArg Value.bool HOB.out,hG.out⟩
  ·refine dM rfl fun w' hG ρ h1 h2 h3 h4 h5=>?_;have f87:ρ (.tmp 87)=(.bool oa):=h4 2 87 rfl rfl;have f91:ρ (.tmp 91)=(WT oa (.bool ob)):=h4 6 91 rfl rfl;have e5:=Dt.out;cases oa <;> simp only[Bool.false_and,Bool.true_and,Bool.true_or,Bool.false_or]at e5 <;> subst e5;all_goals (try dsimp only[WF,WT]at*;clear h4 h5;unfold aO;go_simp;exact⟨rfl,hG.out⟩)
  refine dM rfl fun w' hG ρ h1 h2 h3 h4 h5=>?_;have f92:ρ (.tmp 92)=(.bool ot):=h4 7 92 rfl rfl;rotate_left
  all_goals (clear h4 h5;unfold aO;go_simp;exact⟨rfl,hG.out⟩)
 case hdone=>
 intro w4 hG
 have OD:=hid (HE.out.below hG)
 have OA:=hid (HK.out.below hG)
 have Ov:=hid (HR.out.below hG)
 have OI:=hid (ag HB.out hG)
 clear hG HE HK HR HB e0 e1 e3 k9 U8 HOB Dt
 have HE:=OD
 have HK:=OA
 have HR:=Ov
 have HB:=OI
 clear OD OA Ov OI
 have lV:=HE
 have dX:=HK
 have HR4:=HR
 have HB4:=HB
 clear HE HK HR HB
 have xG:=WR
 have uG:=WV
 have Dt:=WS
 clear WR WV WS
 have e0:=lV.out.cell 0 (v:=.int .u8 kind) rfl
 have e1:=lV.out.cell 1 (v:=.int .i64 th) rfl
 go_upto_block 0 with(fail)
 clear e0 n1
 rcases HKD.out with rfl | rfl | rfl | rfl | rfl | rfl | rfl | rfl | rfl | rfl | rfl | rfl
 ·as_aux_lemma=>
  go_wp2_with fail
  obtain⟨q3,hq3⟩:∃ q:Bool,(decide ((dR l.reverse at_) < 0))=q:=⟨_,rfl⟩
  have HQ3:=hid hq3
  obtain⟨p4,Xw⟩:∃ p:Bool,p=(rd&&q3):=⟨_,rfl⟩
  have HP4:=hid Xw
  obtain⟨q12,hq12⟩:∃ q:Bool,(decide ((fM l.reverse at_)≤v))=q:=⟨_,rfl⟩
  have Il:=hid hq12
  obtain⟨p13,uh⟩:∃ p:Bool,p=(p4&&q12):=⟨_,rfl⟩
  have Io:=hid uh
  obtain⟨Xp,Td⟩:∃ q:Bool,(decide (v≤A.rv))=q:=⟨_,rfl⟩
  have Zu:=hid Td
  obtain⟨Xu,Tq⟩:∃ p:Bool,p=(p13&&Xp):=⟨_,rfl⟩
  have ZE:=hid Tq
  have jB:Hid (fQ S l.reverse ⟨2,th,tx,at_,v,x,why⟩ A=Xu):=hid (by
   unfold fQ jG
   rw[Tq,uh,Xw]
   try simp only[←hq3,←hq12,←Td,←xG.out,←uG.out,←Dt.out]
   rw[Bool.eq_iff_iff]
   simp
   all_goals (try (intros;omega)))
  clear hq3 Xw hq12 uh Td Tq
  apply aZ (fun qq=>([(.bool rd),(.bool rd),(WT rd (.int .i64 (dR l.reverse at_))),(WT rd (.bool q3)),(.bool p4),(.bool p4),(WT p4 (.pointer (some ⟨w.heap.size,4,none⟩))),(WT p4 (.int .i64 v)),(WT p4 (.slice a n cap)),(WT p4 (.pointer (some ⟨w.heap.size,3,none⟩))),(WT p4 (.int .i64 at_)),(WT p4 (.int .i64 (fM l.reverse at_))),(WT p4 (.bool q12)),(.bool p13),(.bool p13),(WT p13 (.pointer (some ⟨w.heap.size,4,none⟩))),(WT p13 (.int .i64 v)),(WT p13 (.pointer (some ⟨w2.heap.size,1,none⟩))),(WT p13 (.int .i64 A.rv)),(WT p13 (.bool Xp)),(.bool Xu),(.bool Xu)]:List Value).getD qq undef) (fun w'=>Below w4.heap.size w4 w')
  focus (simp[ay,aB,Act.put,List.getD];rfl)
  case hm=>kernel_rfl
  case hd=>kernel_rfl
  case hb=>kernel_rfl
  case iR=>kernel_rfl
  case hsz=>kernel_rfl
  case h0=>exact aj (af _)
  case hstep=>
   refine⟨?_,?_,?_,?_,?_,?_,?_,?_,?_,?_,?_,?_,?_,?_,?_,?_,?_,?_,?_,?_,?_,?_,trivial⟩
   refine dM rfl fun w' hG ρ h1 h2 h3 h4 h5=>?_;have f12:ρ (.tmp 12)=.bool rd:=h5 12 rfl;rotate_left
   refine dM rfl fun w' hG ρ h1 h2 h3 h4 h5=>?_;have f97:ρ (.tmp 97)=(.bool rd):=h4 0 97 rfl rfl;rotate_left
   refine dh (s:=rd) (x:=(.int .i64 (dR l.reverse at_))) rfl rfl rfl fun hs w' hG ρ h1 h2 h3 h4 h5=>?_;subst hs;have f14:ρ (.tmp 14)=.int .i64 (dR l.reverse at_):=h5 14 rfl;rotate_left
   ·refine dh (s:=rd) (x:=(.bool q3)) rfl rfl rfl fun hs w' hG ρ h1 h2 h3 h4 h5=>?_;subst hs;have f99:ρ (.tmp 99)=(.int .i64 (dR l.reverse at_)):=h4 2 99 rfl rfl;clear h4 h5;unfold aO;go_simp;exact⟨congrArg Value.bool HQ3.out,hG.out⟩
   ·refine dM rfl fun w' hG ρ h1 h2 h3 h4 h5=>?_;have f98:ρ (.tmp 98)=(.bool rd):=h4 1 98 rfl rfl;have f100:ρ (.tmp 100)=(WT rd (.bool q3)):=h4 3 100 rfl rfl;have e5:=HP4.out;cases rd <;> simp only[Bool.false_and,Bool.true_and,Bool.true_or,Bool.false_or]at e5 <;> subst e5;all_goals (try dsimp only[WF,WT]at*;clear h4 h5;unfold aO;go_simp;exact⟨rfl,hG.out⟩)
   refine dM rfl fun w' hG ρ h1 h2 h3 h4 h5=>?_;have f101:ρ (.tmp 101)=(.bool p4):=h4 4 101 rfl rfl;rotate_left
   refine dh (s:=p4) (x:=(.pointer (some ⟨w.heap.size,4,none⟩))) rfl rfl rfl fun hs w' hG ρ h1 h2 h3 h4 h5=>?_;subst hs;have f6:ρ (.tmp 6)=.pointer (some ⟨w.heap.size,0,none⟩):=h5 6 rfl;rotate_left
   refine dh (s:=p4) (x:=(.int .i64 v)) rfl rfl rfl fun hs w' hG ρ h1 h2 h3 h4 h5=>?_;subst hs;have f103:ρ (.tmp 103)=(.pointer (some ⟨w.heap.size,4,none⟩)):=h4 6 103 rfl rfl;have c:=(lV.out.below hG.out).cell 4 (v:=.int .i64 v) rfl;rotate_left
   refine dh (s:=p4) (x:=(.slice a n cap)) rfl rfl rfl fun hs w' hG ρ h1 h2 h3 h4 h5=>?_;subst hs;have f0:ρ (.tmp 0)=.slice a n cap:=h5 0 rfl;rotate_left
   refine dh (s:=p4) (x:=(.pointer (some ⟨w.heap.size,3,none⟩))) rfl rfl rfl fun hs w' hG ρ h1 h2 h3 h4 h5=>?_;subst hs;have f6:ρ (.tmp 6)=.pointer (some ⟨w.heap.size,0,none⟩):=h5 6 rfl;rotate_left
   refine dh (s:=p4) (x:=(.int .i64 at_)) rfl rfl rfl fun hs w' hG ρ h1 h2 h3 h4 h5=>?_;subst hs;have f106:ρ (.tmp 106)=(.pointer (some ⟨w.heap.size,3,none⟩)):=h4 9 106 rfl rfl;have c:=(lV.out.below hG.out).cell 3 (v:=.int .i64 at_) rfl;rotate_left
   ·refine dh (s:=p4) (x:=(.int .i64 (fM l.reverse at_))) rfl rfl rfl fun hs w' hG ρ h1 h2 h3 h4 h5=>?_;subst hs;have f105:ρ (.tmp 105)=(.slice a n cap):=h4 8 105 rfl rfl;have f107:ρ (.tmp 107)=(.int .i64 at_):=h4 10 107 rfl rfl;clear h4 h5;unfold aO;go_simp;unfold xE;refine(Ih.out _ (ag HB4.out hG.out) at_).mono ?_;rintro e' w1 ⟨rfl,hb⟩;exact⟨_,rfl,rfl,ag hG.out hb⟩
   ·refine dh (s:=p4) (x:=(.bool q12)) rfl rfl rfl fun hs w' hG ρ h1 h2 h3 h4 h5=>?_;subst hs;have f104:ρ (.tmp 104)=(.int .i64 v):=h4 7 104 rfl rfl;have f108:ρ (.tmp 108)=(.int .i64 (fM l.reverse at_)):=h4 11 108 rfl rfl;clear h4 h5;unfold aO;go_simp;exact⟨congrArg Value.bool Il.out,hG.out⟩
   ·refine dM rfl fun w' hG ρ h1 h2 h3 h4 h5=>?_;have f102:ρ (.tmp 102)=(.bool p4):=h4 5 102 rfl rfl;have f109:ρ (.tmp 109)=(WT p4 (.bool q12)):=h4 12 109 rfl rfl;have e5:=Io.out;cases p4 <;> simp only[Bool.false_and,Bool.true_and,Bool.true_or,Bool.false_or]at e5 <;> subst e5;all_goals (try dsimp only[WF,WT]at*;clear h4 h5;unfold aO;go_simp;exact⟨rfl,hG.out⟩)
   refine dM rfl fun w' hG ρ h1 h2 h3 h4 h5=>?_;have f110:ρ (.tmp 110)=(.bool p13):=h4 13 110 rfl rfl;rotate_left
   refine dh (s:=p13) (x:=(.pointer (some ⟨w.heap.size,4,none⟩))) rfl rfl rfl fun hs w' hG ρ h1 h2 h3 h4 h5=>?_;subst hs;have f6:ρ (.tmp 6)=.pointer (some ⟨w.heap.size,0,none⟩):=h5 6 rfl;rotate_left
   refine dh (s:=p13) (x:=(.int .i64 v)) rfl rfl rfl fun hs w' hG ρ h1 h2 h3 h4 h5=>?_;subst hs;have f112:ρ (.tmp 112)=(.pointer (some ⟨w.heap.size,4,none⟩)):=h4 15 112 rfl rfl;have c:=(lV.out.below hG.out).cell 4 (v:=.int .i64 v) rfl;rotate_left
   refine dh (s:=p13) (x:=(.pointer (some ⟨w2.heap.size,1,none⟩))) rfl rfl rfl fun hs w' hG ρ h1 h2 h3 h4 h5=>?_;subst hs;have f11:ρ (.tmp 11)=.pointer (some ⟨w2.heap.size,0,none⟩):=h5 11 rfl;rotate_left
   refine dh (s:=p13) (x:=(.int .i64 A.rv)) rfl rfl rfl fun hs w' hG ρ h1 h2 h3 h4 h5=>?_;subst hs;have f114:ρ (.tmp 114)=(.pointer (some ⟨w2.heap.size,1,none⟩)):=h4 17 114 rfl rfl;have c:=(dX.out.below hG.out).cell 1 (v:=.int .i64 A.rv) rfl;rotate_left
   ·refine dh (s:=p13) (x:=(.bool Xp)) rfl rfl rfl fun hs w' hG ρ h1 h2 h3 h4 h5=>?_;subst hs;have f113:ρ (.tmp 113)=(.int .i64 v):=h4 16 113 rfl rfl;have f115:ρ (.tmp 115)=(.int .i64 A.rv):=h4 18 115 rfl rfl;clear h4 h5;unfold aO;go_simp;exact⟨congrArg Value.bool Zu.out,hG.out⟩
   ·refine dM rfl fun w' hG ρ h1 h2 h3 h4 h5=>?_;have f111:ρ (.tmp 111)=(.bool p13):=h4 14 111 rfl rfl;have f116:ρ (.tmp 116)=(WT p13 (.bool Xp)):=h4 19 116 rfl rfl;have e5:=ZE.out;cases p13 <;> simp only[Bool.false_and,Bool.true_and,Bool.true_or,Bool.false_or]at e5 <;> subst e5;all_goals (try dsimp only[WF,WT]at*;clear h4 h5;unfold aO;go_simp;exact⟨rfl,hG.out⟩)
   refine dM rfl fun w' hG ρ h1 h2 h3 h4 h5=>?_;have f117:ρ (.tmp 117)=(.bool Xu):=h4 20 117 rfl rfl;rotate_left
   all_goals (clear h4 h5;unfold aO;go_simp;exact⟨rfl,hG.out⟩)
  case hdone=>
   intro w' hG
   have sW:=hid (ag HB4.out hG)
   clear hG e1
   go_wp2_with fail
   all_goals (go_ret;exact⟨by rw[HQ.out,jB.out];try rfl,sW.out⟩)
 ·as_aux_lemma=>
  go_wp2_with fail
  obtain⟨q4,hq4⟩:∃ q:Bool,((A.last==4))=q:=⟨_,rfl⟩
  have Zo:=hid hq4
  obtain⟨p5,Nl⟩:∃ p:Bool,p=(rd||q4):=⟨_,rfl⟩
  have RD:=hid Nl
  obtain⟨q12,hq12⟩:∃ q:Bool,(decide ((iy A.locked) < at_))=q:=⟨_,rfl⟩
  have Il:=hid hq12
  obtain⟨p13,uh⟩:∃ p:Bool,p=(p5&&q12):=⟨_,rfl⟩
  have Io:=hid uh
  obtain⟨q16,Gy⟩:∃ q:Bool,(decide ((dR l.reverse at_) < 0))=q:=⟨_,rfl⟩
  have Uo:=hid Gy
  obtain⟨wR,GK⟩:∃ p:Bool,p=(p13&&q16):=⟨_,rfl⟩
  have Uw:=hid GK
  have jB:Hid (fQ S l.reverse ⟨4,th,tx,at_,v,x,why⟩ A=wR):=hid (by
   unfold fQ jG
   rw[GK,uh,Nl]
   try simp only[←hq4,←hq12,←Gy,←xG.out,←uG.out,←Dt.out]
   rw[Bool.eq_iff_iff]
   simp
   all_goals (try (intros;omega)))
  clear hq4 Nl hq12 uh Gy GK
  apply aZ (fun qq=>([(.bool rd),(.bool rd),(WF rd (.pointer (some ⟨w2.heap.size,9,none⟩))),(WF rd (.int .u8 A.last)),(WF rd (.bool q4)),(.bool p5),(.bool p5),(WT p5 (.pointer (some ⟨w.heap.size,3,none⟩))),(WT p5 (.int .i64 at_)),(WT p5 (.pointer (some ⟨w2.heap.size,4,none⟩))),(WT p5 (.slice pl A.locked.length cl)),(WT p5 (.int .i64 (iy A.locked))),(WT p5 (.bool q12)),(.bool p13),(.bool p13),(WT p13 (.int .i64 (dR l.reverse at_))),(WT p13 (.bool q16)),(.bool wR),(.bool wR)]:List Value).getD qq undef) (fun w'=>Below w4.heap.size w4 w')
  focus (simp[ay,aB,Act.put,List.getD];rfl)
  case hm=>kernel_rfl
  case hd=>kernel_rfl
  case hb=>kernel_rfl
  case iR=>kernel_rfl
  case hsz=>kernel_rfl
  case h0=>exact aj (af _)
  case hstep=>
   refine⟨?_,?_,?_,?_,?_,?_,?_,?_,?_,?_,?_,?_,?_,?_,?_,?_,?_,?_,?_,trivial⟩
   refine dM rfl fun w' hG ρ h1 h2 h3 h4 h5=>?_;have f12:ρ (.tmp 12)=.bool rd:=h5 12 rfl;rotate_left
   refine dM rfl fun w' hG ρ h1 h2 h3 h4 h5=>?_;have f157:ρ (.tmp 157)=(.bool rd):=h4 0 157 rfl rfl;rotate_left
   refine vI (s:=rd) (x:=(.pointer (some ⟨w2.heap.size,9,none⟩))) rfl rfl rfl fun hs w' hG ρ h1 h2 h3 h4 h5=>?_;subst hs;have f11:ρ (.tmp 11)=.pointer (some ⟨w2.heap.size,0,none⟩):=h5 11 rfl;rotate_left
   refine vI (s:=rd) (x:=(.int .u8 A.last)) rfl rfl rfl fun hs w' hG ρ h1 h2 h3 h4 h5=>?_;subst hs;have f159:ρ (.tmp 159)=(.pointer (some ⟨w2.heap.size,9,none⟩)):=h4 2 159 rfl rfl;have c:=(dX.out.below hG.out).cell 9 (v:=.int .u8 A.last) rfl;rotate_left
   ·refine vI (s:=rd) (x:=(.bool q4)) rfl rfl rfl fun hs w' hG ρ h1 h2 h3 h4 h5=>?_;subst hs;have f160:ρ (.tmp 160)=(.int .u8 A.last):=h4 3 160 rfl rfl;clear h4 h5;unfold aO;go_simp;exact⟨congrArg Value.bool Zo.out,hG.out⟩
   ·refine dM rfl fun w' hG ρ h1 h2 h3 h4 h5=>?_;have f158:ρ (.tmp 158)=(.bool rd):=h4 1 158 rfl rfl;have f161:ρ (.tmp 161)=(WF rd (.bool q4)):=h4 4 161 rfl rfl;have e5:=RD.out;cases rd <;> simp only[Bool.false_and,Bool.true_and,Bool.true_or,Bool.false_or]at e5 <;> subst e5;all_goals (try dsimp only[WF,WT]at*;clear h4 h5;unfold aO;go_simp;exact⟨rfl,hG.out⟩)
   refine dM rfl fun w' hG ρ h1 h2 h3 h4 h5=>?_;have f162:ρ (.tmp 162)=(.bool p5):=h4 5 162 rfl rfl;rotate_left
   refine dh (s:=p5) (x:=(.pointer (some ⟨w.heap.size,3,none⟩))) rfl rfl rfl fun hs w' hG ρ h1 h2 h3 h4 h5=>?_;subst hs;have f6:ρ (.tmp 6)=.pointer (some ⟨w.heap.size,0,none⟩):=h5 6 rfl;rotate_left
   refine dh (s:=p5) (x:=(.int .i64 at_)) rfl rfl rfl fun hs w' hG ρ h1 h2 h3 h4 h5=>?_;subst hs;have f164:ρ (.tmp 164)=(.pointer (some ⟨w.heap.size,3,none⟩)):=h4 7 164 rfl rfl;have c:=(lV.out.below hG.out).cell 3 (v:=.int .i64 at_) rfl;rotate_left
   refine dh (s:=p5) (x:=(.pointer (some ⟨w2.heap.size,4,none⟩))) rfl rfl rfl fun hs w' hG ρ h1 h2 h3 h4 h5=>?_;subst hs;have f11:ρ (.tmp 11)=.pointer (some ⟨w2.heap.size,0,none⟩):=h5 11 rfl;rotate_left
   refine dh (s:=p5) (x:=(.slice pl A.locked.length cl)) rfl rfl rfl fun hs w' hG ρ h1 h2 h3 h4 h5=>?_;subst hs;have f166:ρ (.tmp 166)=(.pointer (some ⟨w2.heap.size,4,none⟩)):=h4 9 166 rfl rfl;have c:=(dX.out.below hG.out).cell 4 (v:=.slice pl A.locked.length cl) rfl;rotate_left
   ·refine dh (s:=p5) (x:=(.int .i64 (iy A.locked))) rfl rfl rfl fun hs w' hG ρ h1 h2 h3 h4 h5=>?_;subst hs;have f167:ρ (.tmp 167)=(.slice pl A.locked.length cl):=h4 10 167 rfl rfl;clear h4 h5;unfold aO;go_simp;unfold xE;refine(last_any A.locked _ _ ((HR4.out.rl.Sl).below hG.out) (by have h1:=Bo.out.l;rw[List.length_reverse]at h1;have:=HLEN.out;omega)).mono ?_;rintro e' w1 ⟨rfl,rfl⟩;exact⟨_,rfl,rfl,hG.out⟩
   ·refine dh (s:=p5) (x:=(.bool q12)) rfl rfl rfl fun hs w' hG ρ h1 h2 h3 h4 h5=>?_;subst hs;have f165:ρ (.tmp 165)=(.int .i64 at_):=h4 8 165 rfl rfl;have f168:ρ (.tmp 168)=(.int .i64 (iy A.locked)):=h4 11 168 rfl rfl;clear h4 h5;unfold aO;go_simp;exact⟨congrArg Value.bool Il.out,hG.out⟩
   ·refine dM rfl fun w' hG ρ h1 h2 h3 h4 h5=>?_;have f163:ρ (.tmp 163)=(.bool p5):=h4 6 163 rfl rfl;have f169:ρ (.tmp 169)=(WT p5 (.bool q12)):=h4 12 169 rfl rfl;have e5:=Io.out;cases p5 <;> simp only[Bool.false_and,Bool.true_and,Bool.true_or,Bool.false_or]at e5 <;> subst e5;all_goals (try dsimp only[WF,WT]at*;clear h4 h5;unfold aO;go_simp;exact⟨rfl,hG.out⟩)
   refine dM rfl fun w' hG ρ h1 h2 h3 h4 h5=>?_;have f170:ρ (.tmp 170)=(.bool p13):=h4 13 170 rfl rfl;rotate_left
   refine dh (s:=p13) (x:=(.int .i64 (dR l.reverse at_))) rfl rfl rfl fun hs w' hG ρ h1 h2 h3 h4 h5=>?_;subst hs;have f14:ρ (.tmp 14)=.int .i64 (dR l.reverse at_):=h5 14 rfl;rotate_left
   ·refine dh (s:=p13) (x:=(.bool q16)) rfl rfl rfl fun hs w' hG ρ h1 h2 h3 h4 h5=>?_;subst hs;have f172:ρ (.tmp 172)=(.int .i64 (dR l.reverse at_)):=h4 15 172 rfl rfl;clear h4 h5;unfold aO;go_simp;exact⟨congrArg Value.bool Uo.out,hG.out⟩
   ·refine dM rfl fun w' hG ρ h1 h2 h3 h4 h5=>?_;have f171:ρ (.tmp 171)=(.bool p13):=h4 14 171 rfl rfl;have f173:ρ (.tmp 173)=(WT p13 (.bool q16)):=h4 16 173 rfl rfl;have e5:=Uw.out;cases p13 <;> simp only[Bool.false_and,Bool.true_and,Bool.true_or,Bool.false_or]at e5 <;> subst e5;all_goals (try dsimp only[WF,WT]at*;clear h4 h5;unfold aO;go_simp;exact⟨rfl,hG.out⟩)
   refine dM rfl fun w' hG ρ h1 h2 h3 h4 h5=>?_;have f174:ρ (.tmp 174)=(.bool wR):=h4 17 174 rfl rfl;rotate_left
   all_goals (clear h4 h5;unfold aO;go_simp;exact⟨rfl,hG.out⟩)
  case hdone=>
   intro w' hG
   have sW:=hid (ag HB4.out hG)
   clear hG e1
   go_wp2_with fail
   all_goals (go_ret;exact⟨by rw[HQ.out,jB.out];try rfl,sW.out⟩)
 ·as_aux_lemma=>
  go_wp2_with fail
  obtain⟨q2,hq2⟩:∃ q:Bool,((A.last==4))=q:=⟨_,rfl⟩
  have Ox:=hid hq2
  obtain⟨q8,hq8⟩:∃ q:Bool,(decide ((lZ l.reverse) < v))=q:=⟨_,rfl⟩
  have HQ8:=hid hq8
  obtain⟨p9,Ym⟩:∃ p:Bool,p=(q2&&q8):=⟨_,rfl⟩
  have HP9:=hid Ym
  have jB:Hid (fQ S l.reverse ⟨5,th,tx,at_,v,x,why⟩ A=p9):=hid (by
   unfold fQ
   rw[Ym]
   try simp only[←hq2,←hq8,←xG.out,←uG.out,←Dt.out]
   rw[Bool.eq_iff_iff]
   simp
   all_goals (try (intros;omega)))
  clear hq2 hq8 Ym
  apply aZ (fun qq=>([(.pointer (some ⟨w2.heap.size,9,none⟩)),(.int .u8 A.last),(.bool q2),(.bool q2),(WT q2 (.pointer (some ⟨w.heap.size,4,none⟩))),(WT q2 (.int .i64 v)),(WT q2 (.slice a n cap)),(WT q2 (.int .i64 (lZ l.reverse))),(WT q2 (.bool q8)),(.bool p9),(.bool p9)]:List Value).getD qq undef) (fun w'=>Below w4.heap.size w4 w')
  focus (simp[ay,aB,Act.put,List.getD];rfl)
  case hm=>kernel_rfl
  case hd=>kernel_rfl
  case hb=>kernel_rfl
  case iR=>kernel_rfl
  case hsz=>kernel_rfl
  case h0=>exact aj (af _)
  case hstep=>
   refine⟨?_,?_,?_,?_,?_,?_,?_,?_,?_,?_,?_,trivial⟩
   refine dM rfl fun w' hG ρ h1 h2 h3 h4 h5=>?_;have f11:ρ (.tmp 11)=.pointer (some ⟨w2.heap.size,0,none⟩):=h5 11 rfl;rotate_left
   refine dM rfl fun w' hG ρ h1 h2 h3 h4 h5=>?_;have f177:ρ (.tmp 177)=(.pointer (some ⟨w2.heap.size,9,none⟩)):=h4 0 177 rfl rfl;have c:=(dX.out.below hG.out).cell 9 (v:=.int .u8 A.last) rfl;rotate_left
   ·refine dM rfl fun w' hG ρ h1 h2 h3 h4 h5=>?_;have f178:ρ (.tmp 178)=(.int .u8 A.last):=h4 1 178 rfl rfl;clear h4 h5;unfold aO;go_simp;exact⟨congrArg Value.bool Ox.out,hG.out⟩
   refine dM rfl fun w' hG ρ h1 h2 h3 h4 h5=>?_;have f179:ρ (.tmp 179)=(.bool q2):=h4 2 179 rfl rfl;rotate_left
   refine dh (s:=q2) (x:=(.pointer (some ⟨w.heap.size,4,none⟩))) rfl rfl rfl fun hs w' hG ρ h1 h2 h3 h4 h5=>?_;subst hs;have f6:ρ (.tmp 6)=.pointer (some ⟨w.heap.size,0,none⟩):=h5 6 rfl;rotate_left
   refine dh (s:=q2) (x:=(.int .i64 v)) rfl rfl rfl fun hs w' hG ρ h1 h2 h3 h4 h5=>?_;subst hs;have f181:ρ (.tmp 181)=(.pointer (some ⟨w.heap.size,4,none⟩)):=h4 4 181 rfl rfl;have c:=(lV.out.below hG.out).cell 4 (v:=.int .i64 v) rfl;rotate_left
   refine dh (s:=q2) (x:=(.slice a n cap)) rfl rfl rfl fun hs w' hG ρ h1 h2 h3 h4 h5=>?_;subst hs;have f0:ρ (.tmp 0)=.slice a n cap:=h5 0 rfl;rotate_left
   ·refine dh (s:=q2) (x:=(.int .i64 (lZ l.reverse))) rfl rfl rfl fun hs w' hG ρ h1 h2 h3 h4 h5=>?_;subst hs;have f183:ρ (.tmp 183)=(.slice a n cap):=h4 6 183 rfl rfl;clear h4 h5;unfold aO;go_simp;unfold xE;refine(UK.out _ (ag HB4.out hG.out)).mono ?_;rintro e' w1 ⟨rfl,rfl⟩;exact⟨_,rfl,rfl,hG.out⟩
   ·refine dh (s:=q2) (x:=(.bool q8)) rfl rfl rfl fun hs w' hG ρ h1 h2 h3 h4 h5=>?_;subst hs;have f182:ρ (.tmp 182)=(.int .i64 v):=h4 5 182 rfl rfl;have f184:ρ (.tmp 184)=(.int .i64 (lZ l.reverse)):=h4 7 184 rfl rfl;clear h4 h5;unfold aO;go_simp;exact⟨congrArg Value.bool HQ8.out,hG.out⟩
   ·refine dM rfl fun w' hG ρ h1 h2 h3 h4 h5=>?_;have f180:ρ (.tmp 180)=(.bool q2):=h4 3 180 rfl rfl;have f185:ρ (.tmp 185)=(WT q2 (.bool q8)):=h4 8 185 rfl rfl;have e5:=HP9.out;cases q2 <;> simp only[Bool.false_and,Bool.true_and,Bool.true_or,Bool.false_or]at e5 <;> subst e5;all_goals (try dsimp only[WF,WT]at*;clear h4 h5;unfold aO;go_simp;exact⟨rfl,hG.out⟩)
   refine dM rfl fun w' hG ρ h1 h2 h3 h4 h5=>?_;have f186:ρ (.tmp 186)=(.bool p9):=h4 9 186 rfl rfl;rotate_left
   all_goals (clear h4 h5;unfold aO;go_simp;exact⟨rfl,hG.out⟩)
  case hdone=>
   intro w' hG
   have sW:=hid (ag HB4.out hG)
   clear hG e1
   go_wp2_with fail
   all_goals (go_ret;exact⟨by rw[HQ.out,jB.out];try rfl,sW.out⟩)
 ·as_aux_lemma=>
  have jB:Hid (fQ S l.reverse ⟨12,th,tx,at_,v,x,why⟩ A=rd):=hid (by
   unfold fQ jG
   try simp only[←xG.out,←uG.out,←Dt.out]
   rw[Bool.eq_iff_iff]
   simp
   all_goals (try (intros;omega)))
  go_wp2_with fail
  go_ret
  exact⟨by rw[HQ.out,jB.out];try rfl,HB4.out⟩
 ·as_aux_lemma=>
  by_cases hv:v=0
  ·subst hv
   have jB:Hid (fQ S l.reverse ⟨7,th,tx,at_,0,x,why⟩ A=rd):=hid (by
    unfold fQ jG
    try simp only[←xG.out,←uG.out,←Dt.out]
    rw[Bool.eq_iff_iff]
    simp
    all_goals (try (intros;omega)))
   have e4:=lV.out.cell 4 (v:=.int .i64 0) rfl
   go_wp2_with fail
   go_ret
   exact⟨by rw[HQ.out,jB.out];try rfl,HB4.out⟩
  ·have nv:(v==0)=false:=by simpa using hv
   obtain⟨q1,hq1⟩:∃ q:Bool,((((leftA A).length:Nat):Int)==0)=q:=⟨_,rfl⟩
   obtain⟨q2,hq2⟩:∃ q:Bool,(v==A.wv)=q:=⟨_,rfl⟩
   have jB:Hid (fQ S l.reverse ⟨7,th,tx,at_,v,x,why⟩ A=(ck&&q1&&q2)):=hid (by unfold fQ oN;rw[←hq1,←hq2,←uG.out,Bool.eq_iff_iff];simp[hv])
   clear hv
   have g0:=dX.out.cell 0 (v:=.slice pL A.L.length cL) rfl
   have g1:=dX.out.cell 1 (v:=.int .i64 A.rv) rfl
   have g2:=dX.out.cell 2 (v:=.int .i64 A.wv) rfl
   have g3:=dX.out.cell 3 (v:=.slice pr A.read.length cr) rfl
   have g4:=dX.out.cell 4 (v:=.slice pl A.locked.length cl) rfl
   have g5:=dX.out.cell 5 (v:=.slice pf A.freed.length cf) rfl
   have g6:=dX.out.cell 6 (v:=.int .i64 (A.checked:Int)) rfl
   have g7:=dX.out.cell 7 (v:=.slice ps A.stored.length cs) rfl
   have g8:=dX.out.cell 8 (v:=.int .u8 A.why) rfl
   have g9:=dX.out.cell 9 (v:=.int .u8 A.last) rfl
   have e4:=lV.out.cell 4 (v:=.int .i64 v) rfl
   cases ck
   ·go_wp2_with fail
    all_goals (go_ret;exact⟨by rw[HQ.out,jB.out];try rfl,HB4.out⟩)
   ·go_wp2_with fail
    refine(yJ A pL pr pl pf ps cL cr cl cf cs _ ⟨(by have:=UB.out;show _≤A.rv;omega),UB.out.2⟩ LD.out.2.1 (show A.read.length≤1048576 from by have h1:=Bo.out.r;rw[List.length_reverse]at h1;have:=HLEN.out;omega) HR4.out.rr.Sl).mono ?_
    rintro e' w5 ⟨pq,cq,rfl,hb5,hq5⟩
    have Lu:=hid hq5
    have EX:=hid (lV.out.below hb5)
    have EU:=hid (dX.out.below hb5)
    have qN:=hid (ag HB4.out hb5)
    clear hb5 hq5 lV dX HB4 HR4 g0 g1 g2 g3 g4 g5 g6 g7 g8 g9
    have lV:=EX
    have dX:=EU
    have HB4:=qN
    clear EX EU qN
    have e4:=lV.out.cell 4 (v:=.int .i64 v) rfl
    have k2:=dX.out.cell 2 (v:=.int .i64 A.wv) rfl
    cases q1 <;> (go_wp2_with fail;all_goals (go_ret;exact⟨by rw[HQ.out,jB.out];simp[hq1,hq2],HB4.out⟩))
 ·as_aux_lemma=>
  have g0:=dX.out.cell 0 (v:=.slice pL A.L.length cL) rfl
  have g1:=dX.out.cell 1 (v:=.int .i64 A.rv) rfl
  have g2:=dX.out.cell 2 (v:=.int .i64 A.wv) rfl
  have g3:=dX.out.cell 3 (v:=.slice pr A.read.length cr) rfl
  have g4:=dX.out.cell 4 (v:=.slice pl A.locked.length cl) rfl
  have g5:=dX.out.cell 5 (v:=.slice pf A.freed.length cf) rfl
  have g6:=dX.out.cell 6 (v:=.int .i64 (A.checked:Int)) rfl
  have g7:=dX.out.cell 7 (v:=.slice ps A.stored.length cs) rfl
  have g8:=dX.out.cell 8 (v:=.int .u8 A.why) rfl
  have g9:=dX.out.cell 9 (v:=.int .u8 A.last) rfl
  go_wp2_with fail
  clear e1
  refine(yJ A pL pr pl pf ps cL cr cl cf cs _ ⟨(by have:=UB.out;show _≤A.rv;omega),UB.out.2⟩ LD.out.2.1 (show A.read.length≤1048576 from by have h1:=Bo.out.r;rw[List.length_reverse]at h1;have:=HLEN.out;omega) HR4.out.rr.Sl).mono ?_
  rintro e' w5 ⟨pq,cq,rfl,hb5,hq5⟩
  have Lu:=hid hq5
  have EX:=hid (lV.out.below hb5)
  have EU:=hid (dX.out.below hb5)
  have qN:=hid (ag HB4.out hb5)
  clear hb5 hq5 lV dX HB4 HR4 g0 g1 g2 g3 g4 g5 g6 g7 g8 g9
  have lV:=EX
  have dX:=EU
  have HB4:=qN
  clear EX EU qN
  rcases hlf:leftA A with _ | ⟨y,ys⟩
  ·have jB:Hid (fQ S l.reverse ⟨6,th,tx,at_,v,x,why⟩ A=false):=hid (by unfold fQ;simp[hlf,headB])
   rw[List.length_nil]
   clear hlf Lu
   cases ck
   all_goals (go_wp2_with fail;go_quiet (fail);go_wp2_with fail;all_goals (go_ret;exact⟨by rw[HQ.out,jB.out];try rfl,ai HB4.out _⟩))
  ·skip
   obtain⟨lb,lo,rfl,hcy⟩:=Lu.out (by rw[hlf];simp)
   have OH:=hid (hcy y (by rw[hlf];rfl))
   have hhd:headB (leftA A) at_=(y==at_):=by unfold headB;rw[hlf,List.head?_cons,Bool.eq_iff_iff,decide_eq_true_eq,beq_iff_eq];exact⟨fun h=>Option.some.inj h,fun h=>by rw[h]⟩
   obtain⟨N,hN⟩:∃ N,N=(y :: ys).length:=⟨_,rfl⟩
   have hN1:N=ys.length+1:=by rw[hN];rfl
   rw[←hN]
   have JN:=hid (show decide ((0:Int) < (N:Int))=true∧(0:Int) < (N:Int)∧0 < N from⟨decide_eq_true (by omega),by omega,by omega⟩)
   clear hcy hN hN1 hlf Lu
   go_wp2_with fail
   obtain⟨p5,Nl⟩:∃ p:Bool,p=(ck&&true):=⟨_,rfl⟩
   have RD:=hid Nl
   obtain⟨q12,hq12⟩:∃ q:Bool,((y==at_))=q:=⟨_,rfl⟩
   have Il:=hid hq12
   obtain⟨p13,uh⟩:∃ p:Bool,p=(p5&&q12):=⟨_,rfl⟩
   have Io:=hid uh
   obtain⟨q16,Gy⟩:∃ q:Bool,(!ot)=q:=⟨_,rfl⟩
   have Uo:=hid Gy
   obtain⟨wR,GK⟩:∃ p:Bool,p=(p13&&q16):=⟨_,rfl⟩
   have Uw:=hid GK
   obtain⟨Lj,Gw⟩:∃ q:Bool,(decide ((fM l.reverse at_)≤A.rv))=q:=⟨_,rfl⟩
   have Um:=hid Gw
   obtain⟨p26,GG⟩:∃ p:Bool,p=(wR&&Lj):=⟨_,rfl⟩
   have Ut:=hid GG
   have jB:Hid (fQ S l.reverse ⟨6,th,tx,at_,v,x,why⟩ A=p26):=hid (by
    unfold fQ oN o8
    rw[GG,GK,uh,Nl]
    try simp only[←hq12,←Gy,←Gw,←xG.out,←uG.out,←Dt.out]
    rw[Bool.eq_iff_iff]
    simp[hhd]
    all_goals (try (intros;omega)))
   clear Nl hq12 uh Gy GK Gw GG hhd
   apply aZ (fun qq=>([(.bool ck),(.bool ck),(WT ck (.slice (some ⟨lb,lo,none⟩) N cq)),(WT ck (.int .i64 ((N:Nat):Int))),(WT ck (.bool true)),(.bool p5),(.bool p5),(WT p5 (.slice (some ⟨lb,lo,none⟩) N cq)),(WT p5 (.pointer (some ⟨lb,lo,none⟩))),(WT p5 (.int .i64 y)),(WT p5 (.pointer (some ⟨w.heap.size,3,none⟩))),(WT p5 (.int .i64 at_)),(WT p5 (.bool q12)),(.bool p13),(.bool p13),(WT p13 (.bool ot)),(WT p13 (.bool q16)),(.bool wR),(.bool wR),(WT wR (.slice a n cap)),(WT wR (.pointer (some ⟨w.heap.size,3,none⟩))),(WT wR (.int .i64 at_)),(WT wR (.int .i64 (fM l.reverse at_))),(WT wR (.pointer (some ⟨w2.heap.size,1,none⟩))),(WT wR (.int .i64 A.rv)),(WT wR (.bool Lj)),(.bool p26),(.bool p26)]:List Value).getD qq undef) (fun w'=>Below w5.heap.size w5 w')
   focus (simp[ay,aB,Act.put,List.getD];rfl)
   case hm=>kernel_rfl
   case hd=>kernel_rfl
   case hb=>kernel_rfl
   case iR=>kernel_rfl
   case hsz=>kernel_rfl
   case h0=>exact aj (af _)
   case hstep=>
    refine⟨?_,?_,?_,?_,?_,?_,?_,?_,?_,?_,?_,?_,?_,?_,?_,?_,?_,?_,?_,?_,?_,?_,?_,?_,?_,?_,?_,?_,trivial⟩
    refine dM rfl fun w' hG ρ h1 h2 h3 h4 h5=>?_;have f13:ρ (.tmp 13)=.bool ck:=h5 13 rfl;rotate_left
    refine dM rfl fun w' hG ρ h1 h2 h3 h4 h5=>?_;have f191:ρ (.tmp 191)=(.bool ck):=h4 0 191 rfl rfl;rotate_left
    refine dh (s:=ck) (x:=(.slice (some ⟨lb,lo,none⟩) N cq)) rfl rfl rfl fun hs w' hG ρ h1 h2 h3 h4 h5=>?_;subst hs;have f18:ρ (.tmp 18)=.slice (some ⟨lb,lo,none⟩) N cq:=h5 18 rfl;rotate_left
    refine dh (s:=ck) (x:=(.int .i64 ((N:Nat):Int))) rfl rfl rfl fun hs w' hG ρ h1 h2 h3 h4 h5=>?_;subst hs;have f193:ρ (.tmp 193)=(.slice (some ⟨lb,lo,none⟩) N cq):=h4 2 193 rfl rfl;rotate_left
    refine dh (s:=ck) (x:=(.bool true)) rfl rfl rfl fun hs w' hG ρ h1 h2 h3 h4 h5=>?_;subst hs;have f194:ρ (.tmp 194)=(.int .i64 ((N:Nat):Int)):=h4 3 194 rfl rfl;obtain⟨y1,y2,y3⟩:=JN.out;rotate_left
    ·refine dM rfl fun w' hG ρ h1 h2 h3 h4 h5=>?_;have f192:ρ (.tmp 192)=(.bool ck):=h4 1 192 rfl rfl;have f195:ρ (.tmp 195)=(WT ck (.bool true)):=h4 4 195 rfl rfl;have e5:=RD.out;cases ck <;> simp only[Bool.false_and,Bool.true_and,Bool.true_or,Bool.false_or]at e5 <;> subst e5;all_goals (try dsimp only[WF,WT]at*;clear h4 h5;unfold aO;go_simp;exact⟨rfl,hG.out⟩)
    refine dM rfl fun w' hG ρ h1 h2 h3 h4 h5=>?_;have f196:ρ (.tmp 196)=(.bool p5):=h4 5 196 rfl rfl;rotate_left
    refine dh (s:=p5) (x:=(.slice (some ⟨lb,lo,none⟩) N cq)) rfl rfl rfl fun hs w' hG ρ h1 h2 h3 h4 h5=>?_;subst hs;have f18:ρ (.tmp 18)=.slice (some ⟨lb,lo,none⟩) N cq:=h5 18 rfl;rotate_left
    refine dh (s:=p5) (x:=(.pointer (some ⟨lb,lo,none⟩))) rfl rfl rfl fun hs w' hG ρ h1 h2 h3 h4 h5=>?_;subst hs;have f198:ρ (.tmp 198)=(.slice (some ⟨lb,lo,none⟩) N cq):=h4 7 198 rfl rfl;obtain⟨y1,y2,y3⟩:=JN.out;rotate_left
    refine dh (s:=p5) (x:=(.int .i64 y)) rfl rfl rfl fun hs w' hG ρ h1 h2 h3 h4 h5=>?_;subst hs;have f199:ρ (.tmp 199)=(.pointer (some ⟨lb,lo,none⟩)):=h4 8 199 rfl rfl;have c:=later hG.out OH.out;rotate_left
    refine dh (s:=p5) (x:=(.pointer (some ⟨w.heap.size,3,none⟩))) rfl rfl rfl fun hs w' hG ρ h1 h2 h3 h4 h5=>?_;subst hs;have f6:ρ (.tmp 6)=.pointer (some ⟨w.heap.size,0,none⟩):=h5 6 rfl;rotate_left
    refine dh (s:=p5) (x:=(.int .i64 at_)) rfl rfl rfl fun hs w' hG ρ h1 h2 h3 h4 h5=>?_;subst hs;have f201:ρ (.tmp 201)=(.pointer (some ⟨w.heap.size,3,none⟩)):=h4 10 201 rfl rfl;have c:=(lV.out.below hG.out).cell 3 (v:=.int .i64 at_) rfl;rotate_left
    ·refine dh (s:=p5) (x:=(.bool q12)) rfl rfl rfl fun hs w' hG ρ h1 h2 h3 h4 h5=>?_;subst hs;have f200:ρ (.tmp 200)=(.int .i64 y):=h4 9 200 rfl rfl;have f202:ρ (.tmp 202)=(.int .i64 at_):=h4 11 202 rfl rfl;clear h4 h5;unfold aO;go_simp;exact⟨congrArg Value.bool Il.out,hG.out⟩
    ·refine dM rfl fun w' hG ρ h1 h2 h3 h4 h5=>?_;have f197:ρ (.tmp 197)=(.bool p5):=h4 6 197 rfl rfl;have f203:ρ (.tmp 203)=(WT p5 (.bool q12)):=h4 12 203 rfl rfl;have e5:=Io.out;cases p5 <;> simp only[Bool.false_and,Bool.true_and,Bool.true_or,Bool.false_or]at e5 <;> subst e5;all_goals (try dsimp only[WF,WT]at*;clear h4 h5;unfold aO;go_simp;exact⟨rfl,hG.out⟩)
    refine dM rfl fun w' hG ρ h1 h2 h3 h4 h5=>?_;have f204:ρ (.tmp 204)=(.bool p13):=h4 13 204 rfl rfl;rotate_left
    refine dh (s:=p13) (x:=(.bool ot)) rfl rfl rfl fun hs w' hG ρ h1 h2 h3 h4 h5=>?_;subst hs;have f15:ρ (.tmp 15)=.bool ot:=h5 15 rfl;rotate_left
    ·refine dh (s:=p13) (x:=(.bool q16)) rfl rfl rfl fun hs w' hG ρ h1 h2 h3 h4 h5=>?_;subst hs;have f206:ρ (.tmp 206)=(.bool ot):=h4 15 206 rfl rfl;clear h4 h5;unfold aO;go_simp;exact⟨congrArg Value.bool Uo.out,hG.out⟩
    ·refine dM rfl fun w' hG ρ h1 h2 h3 h4 h5=>?_;have f205:ρ (.tmp 205)=(.bool p13):=h4 14 205 rfl rfl;have f207:ρ (.tmp 207)=(WT p13 (.bool q16)):=h4 16 207 rfl rfl;have e5:=Uw.out;cases p13 <;> simp only[Bool.false_and,Bool.true_and,Bool.true_or,Bool.false_or]at e5 <;> subst e5;all_goals (try dsimp only[WF,WT]at*;clear h4 h5;unfold aO;go_simp;exact⟨rfl,hG.out⟩)
    refine dM rfl fun w' hG ρ h1 h2 h3 h4 h5=>?_;have f208:ρ (.tmp 208)=(.bool wR):=h4 17 208 rfl rfl;rotate_left
    refine dh (s:=wR) (x:=(.slice a n cap)) rfl rfl rfl fun hs w' hG ρ h1 h2 h3 h4 h5=>?_;subst hs;have f0:ρ (.tmp 0)=.slice a n cap:=h5 0 rfl;rotate_left
    refine dh (s:=wR) (x:=(.pointer (some ⟨w.heap.size,3,none⟩))) rfl rfl rfl fun hs w' hG ρ h1 h2 h3 h4 h5=>?_;subst hs;have f6:ρ (.tmp 6)=.pointer (some ⟨w.heap.size,0,none⟩):=h5 6 rfl;rotate_left
    refine dh (s:=wR) (x:=(.int .i64 at_)) rfl rfl rfl fun hs w' hG ρ h1 h2 h3 h4 h5=>?_;subst hs;have f211:ρ (.tmp 211)=(.pointer (some ⟨w.heap.size,3,none⟩)):=h4 20 211 rfl rfl;have c:=(lV.out.below hG.out).cell 3 (v:=.int .i64 at_) rfl;rotate_left
    ·refine dh (s:=wR) (x:=(.int .i64 (fM l.reverse at_))) rfl rfl rfl fun hs w' hG ρ h1 h2 h3 h4 h5=>?_;subst hs;have f210:ρ (.tmp 210)=(.slice a n cap):=h4 19 210 rfl rfl;have f212:ρ (.tmp 212)=(.int .i64 at_):=h4 21 212 rfl rfl;clear h4 h5;unfold aO;go_simp;unfold xE;refine(Ih.out _ (ag HB4.out hG.out) at_).mono ?_;rintro e' w1 ⟨rfl,hb⟩;exact⟨_,rfl,rfl,ag hG.out hb⟩
    refine dh (s:=wR) (x:=(.pointer (some ⟨w2.heap.size,1,none⟩))) rfl rfl rfl fun hs w' hG ρ h1 h2 h3 h4 h5=>?_;subst hs;have f11:ρ (.tmp 11)=.pointer (some ⟨w2.heap.size,0,none⟩):=h5 11 rfl;rotate_left
    refine dh (s:=wR) (x:=(.int .i64 A.rv)) rfl rfl rfl fun hs w' hG ρ h1 h2 h3 h4 h5=>?_;subst hs;have f214:ρ (.tmp 214)=(.pointer (some ⟨w2.heap.size,1,none⟩)):=h4 23 214 rfl rfl;have c:=(dX.out.below hG.out).cell 1 (v:=.int .i64 A.rv) rfl;rotate_left
    ·refine dh (s:=wR) (x:=(.bool Lj)) rfl rfl rfl fun hs w' hG ρ h1 h2 h3 h4 h5=>?_;subst hs;have f213:ρ (.tmp 213)=(.int .i64 (fM l.reverse at_)):=h4 22 213 rfl rfl;have f215:ρ (.tmp 215)=(.int .i64 A.rv):=h4 24 215 rfl rfl;clear h4 h5;unfold aO;go_simp;exact⟨congrArg Value.bool Um.out,hG.out⟩
    ·refine dM rfl fun w' hG ρ h1 h2 h3 h4 h5=>?_;have f209:ρ (.tmp 209)=(.bool wR):=h4 18 209 rfl rfl;have f216:ρ (.tmp 216)=(WT wR (.bool Lj)):=h4 25 216 rfl rfl;have e5:=Ut.out;cases wR <;> simp only[Bool.false_and,Bool.true_and,Bool.true_or,Bool.false_or]at e5 <;> subst e5;all_goals (try dsimp only[WF,WT]at*;clear h4 h5;unfold aO;go_simp;exact⟨rfl,hG.out⟩)
    refine dM rfl fun w' hG ρ h1 h2 h3 h4 h5=>?_;have f217:ρ (.tmp 217)=(.bool p26):=h4 26 217 rfl rfl;rotate_left
    all_goals (clear h4 h5;unfold aO;go_simp;exact⟨rfl,hG.out⟩)
   case hdone=>
    intro w' hG
    have sW:=hid (ag HB4.out hG)
    clear hG
    go_wp2_with fail
    all_goals (go_ret;exact⟨by rw[HQ.out,jB.out];try rfl,sW.out⟩)
 ·as_aux_lemma=>
  have z1:at_.tmod S=at_ % S:=Int.tmod_eq_emod_of_nonneg HAT.out
  have z2:¬ S=0:=by have:=HS.out;omega
  obtain⟨M,q,NJ⟩:∃ M q,A.L=M++[q]:=by rcases List.eq_nil_or_concat A.L with h | ⟨M,q,h⟩;exact absurd h LD.out.1;exact⟨M,q,by rw[h,List.concat_eq_append]⟩
  obtain⟨gL,rfl⟩:=nG HR4.out.rL (by rw[NJ];simp)
  have QM:=hid (wF A M q NJ)
  have ET:Hid (∀ j u,(qM q)[j]? =some u→w4.cell? ⟨gL,M.length*7+j,none⟩=some u):=hid (fun j u hu=>by have h:=HR4.out.rL;rw[NJ]at h;exact yL h j u hu)
  have V4:A.L.length=M.length+1:=by rw[NJ];simp
  have LC:Hid (M.length+1≤1048576):=hid (by have:=(show A.L.length≤1048576 from by have h1:=Bo.out.L;rw[List.length_reverse]at h1;have:=HLEN.out;omega);omega)
  have mV:=hid V4
  clear NJ V4
  obtain⟨qk,JB,Jz,wu,qv,qx,wo⟩:=q
  have r0:w4.cell? ⟨gL,M.length*7,none⟩=some (.int .u8 qk):=ET.out 0 _ rfl
  have r1:w4.cell? ⟨gL,M.length*7+1,none⟩=some (.int .i64 JB):=ET.out 1 _ rfl
  have r2:w4.cell? ⟨gL,M.length*7+2,none⟩=some (.int .i64 Jz):=ET.out 2 _ rfl
  have r3:w4.cell? ⟨gL,M.length*7+3,none⟩=some (.int .i64 wu):=ET.out 3 _ rfl
  have r4:w4.cell? ⟨gL,M.length*7+4,none⟩=some (.int .i64 qv):=ET.out 4 _ rfl
  have r5:w4.cell? ⟨gL,M.length*7+5,none⟩=some (.int .i64 qx):=ET.out 5 _ rfl
  have r6:w4.cell? ⟨gL,M.length*7+6,none⟩=some (.int .u8 wo):=ET.out 6 _ rfl
  have k0:=dX.out.cell 0 (v:=.slice (some ⟨gL,0,none⟩) A.L.length cL) rfl
  obtain⟨N,hN⟩:∃ N,N=A.L.length:=⟨_,rfl⟩
  have hN1:N=M.length+1:=by rw[hN];exact mV.out
  rw[←hN]at k0
  have i1:IntKind.i64.wrap ((N:Int)-1)=(M.length:Int):=by rw[IntWalk.i64_in _ (by have:=LC.out;omega)];omega
  have i2:(0:Int)≤(M.length:Int):=by omega
  have i3:(M.length:Int) < (N:Int):=by omega
  have i4:decide (M.length < N)=true:=decide_eq_true (by omega)
  have i5:(M.length:Int).toNat=M.length:=by omega
  clear hN hN1
  have e3:=lV.out.cell 3 (v:=.int .i64 at_) rfl
  go_wp2_with fail
  clear k0 e1 e3 i1 i2 i3 i4 i5 r0 r1 r2 r3 r4 r5 r6 z1 z2
  have QO:=hid (aA.new w4 #[.int .u8 qk,.int .i64 JB,.int .i64 Jz,.int .i64 wu,.int .i64 qv,.int .i64 qx,.int .u8 wo] 49)
  have EX:=hid (lV.out.alloc (.cells #[.int .u8 qk,.int .i64 JB,.int .i64 Jz,.int .i64 wu,.int .i64 qv,.int .i64 qx,.int .u8 wo] 49))
  have EU:=hid (dX.out.alloc (.cells #[.int .u8 qk,.int .i64 JB,.int .i64 Jz,.int .i64 wu,.int .i64 qv,.int .i64 qx,.int .u8 wo] 49))
  have qN:=hid (ah HB4.out (.cells #[.int .u8 qk,.int .i64 JB,.int .i64 Jz,.int .i64 wu,.int .i64 qv,.int .i64 qx,.int .u8 wo] 49))
  clear lV dX HB4 HR4 ET
  have lV:=EX
  have dX:=EU
  have HB4:=qN
  clear EX EU qN
  obtain⟨lb,hlb⟩:∃ lb,lb=w4.heap.size:=⟨_,rfl⟩
  obtain⟨w5,hw5⟩:∃ wz,wz=w4.alloc (.cells #[.int .u8 qk,.int .i64 JB,.int .i64 Jz,.int .i64 wu,.int .i64 qv,.int .i64 qx,.int .u8 wo] 49):=⟨_,rfl⟩
  rw[←hlb,←hw5]at QO
  rw[←hw5]at lV dX HB4
  rw[←hlb,←hw5]
  clear hlb hw5
  obtain⟨q2,hq2⟩:∃ q:Bool,((A.last==2))=q:=⟨_,rfl⟩
  have Ox:=hid hq2
  obtain⟨q7,hq7⟩:∃ q:Bool,((wu==(at_ % S)))=q:=⟨_,rfl⟩
  have Zm:=hid hq7
  obtain⟨p8,Yn⟩:∃ p:Bool,p=(q2&&q7):=⟨_,rfl⟩
  have HP8:=hid Yn
  obtain⟨q13,Ti⟩:∃ q:Bool,(decide ((dR l.reverse (at_ % S)) < 0))=q:=⟨_,rfl⟩
  have Zw:=hid Ti
  obtain⟨BO,Tt⟩:∃ p:Bool,p=(p8&&q13):=⟨_,rfl⟩
  have ZF:=hid Tt
  obtain⟨Sr,S9⟩:∃ q:Bool,(((fM l.reverse (at_ % S))==qv))=q:=⟨_,rfl⟩
  have Zr:=hid S9
  obtain⟨PO,GH⟩:∃ p:Bool,p=(BO&&Sr):=⟨_,rfl⟩
  have Uu:=hid GH
  have jB:Hid (fQ S l.reverse ⟨3,th,tx,at_,v,x,why⟩ A=PO):=hid (by
   unfold fQ
   rw[GH,Tt,Yn]
   try simp only[←hq2,←hq7,←Ti,←S9,←xG.out,←uG.out,←Dt.out]
   rw[Bool.eq_iff_iff]
   simp[QM.out]
   all_goals (try (intros;omega)))
  clear hq2 hq7 Yn Ti Tt S9 GH
  apply aZ (fun qq=>([(.pointer (some ⟨w2.heap.size,9,none⟩)),(.int .u8 A.last),(.bool q2),(.bool q2),(WT q2 (.pointer (some ⟨lb,3,none⟩))),(WT q2 (.int .i64 wu)),(WT q2 (.int .i64 (at_ % S))),(WT q2 (.bool q7)),(.bool p8),(.bool p8),(WT p8 (.slice a n cap)),(WT p8 (.int .i64 (at_ % S))),(WT p8 (.int .i64 (dR l.reverse (at_ % S)))),(WT p8 (.bool q13)),(.bool BO),(.bool BO),(WT BO (.slice a n cap)),(WT BO (.int .i64 (at_ % S))),(WT BO (.int .i64 (fM l.reverse (at_ % S)))),(WT BO (.pointer (some ⟨lb,4,none⟩))),(WT BO (.int .i64 qv)),(WT BO (.bool Sr)),(.bool PO),(.bool PO)]:List Value).getD qq undef) (fun w'=>Below w5.heap.size w5 w')
  focus (simp[ay,aB,Act.put,List.getD];rfl)
  case hm=>kernel_rfl
  case hd=>kernel_rfl
  case hb=>kernel_rfl
  case iR=>kernel_rfl
  case hsz=>kernel_rfl
  case h0=>exact aj (af _)
  case hstep=>
   refine⟨?_,?_,?_,?_,?_,?_,?_,?_,?_,?_,?_,?_,?_,?_,?_,?_,?_,?_,?_,?_,?_,?_,?_,?_,trivial⟩
   refine dM rfl fun w' hG ρ h1 h2 h3 h4 h5=>?_;have f11:ρ (.tmp 11)=.pointer (some ⟨w2.heap.size,0,none⟩):=h5 11 rfl;rotate_left
   refine dM rfl fun w' hG ρ h1 h2 h3 h4 h5=>?_;have f132:ρ (.tmp 132)=(.pointer (some ⟨w2.heap.size,9,none⟩)):=h4 0 132 rfl rfl;have c:=(dX.out.below hG.out).cell 9 (v:=.int .u8 A.last) rfl;rotate_left
   ·refine dM rfl fun w' hG ρ h1 h2 h3 h4 h5=>?_;have f133:ρ (.tmp 133)=(.int .u8 A.last):=h4 1 133 rfl rfl;clear h4 h5;unfold aO;go_simp;exact⟨congrArg Value.bool Ox.out,hG.out⟩
   refine dM rfl fun w' hG ρ h1 h2 h3 h4 h5=>?_;have f134:ρ (.tmp 134)=(.bool q2):=h4 2 134 rfl rfl;rotate_left
   refine dh (s:=q2) (x:=(.pointer (some ⟨lb,3,none⟩))) rfl rfl rfl fun hs w' hG ρ h1 h2 h3 h4 h5=>?_;subst hs;have f17:ρ (.tmp 17)=.pointer (some ⟨lb,0,none⟩):=h5 17 rfl;rotate_left
   refine dh (s:=q2) (x:=(.int .i64 wu)) rfl rfl rfl fun hs w' hG ρ h1 h2 h3 h4 h5=>?_;subst hs;have f136:ρ (.tmp 136)=(.pointer (some ⟨lb,3,none⟩)):=h4 4 136 rfl rfl;have c:=(QO.out.below hG.out).cell 3 (v:=.int .i64 wu) rfl;rotate_left
   refine dh (s:=q2) (x:=(.int .i64 (at_ % S))) rfl rfl rfl fun hs w' hG ρ h1 h2 h3 h4 h5=>?_;subst hs;have f16:ρ (.tmp 16)=.int .i64 (at_ % S):=h5 16 rfl;rotate_left
   ·refine dh (s:=q2) (x:=(.bool q7)) rfl rfl rfl fun hs w' hG ρ h1 h2 h3 h4 h5=>?_;subst hs;have f137:ρ (.tmp 137)=(.int .i64 wu):=h4 5 137 rfl rfl;have f138:ρ (.tmp 138)=(.int .i64 (at_ % S)):=h4 6 138 rfl rfl;clear h4 h5;unfold aO;go_simp;exact⟨congrArg Value.bool Zm.out,hG.out⟩
   ·refine dM rfl fun w' hG ρ h1 h2 h3 h4 h5=>?_;have f135:ρ (.tmp 135)=(.bool q2):=h4 3 135 rfl rfl;have f139:ρ (.tmp 139)=(WT q2 (.bool q7)):=h4 7 139 rfl rfl;have e5:=HP8.out;cases q2 <;> simp only[Bool.false_and,Bool.true_and,Bool.true_or,Bool.false_or]at e5 <;> subst e5;all_goals (try dsimp only[WF,WT]at*;clear h4 h5;unfold aO;go_simp;exact⟨rfl,hG.out⟩)
   refine dM rfl fun w' hG ρ h1 h2 h3 h4 h5=>?_;have f140:ρ (.tmp 140)=(.bool p8):=h4 8 140 rfl rfl;rotate_left
   refine dh (s:=p8) (x:=(.slice a n cap)) rfl rfl rfl fun hs w' hG ρ h1 h2 h3 h4 h5=>?_;subst hs;have f0:ρ (.tmp 0)=.slice a n cap:=h5 0 rfl;rotate_left
   refine dh (s:=p8) (x:=(.int .i64 (at_ % S))) rfl rfl rfl fun hs w' hG ρ h1 h2 h3 h4 h5=>?_;subst hs;have f16:ρ (.tmp 16)=.int .i64 (at_ % S):=h5 16 rfl;rotate_left
   ·refine dh (s:=p8) (x:=(.int .i64 (dR l.reverse (at_ % S)))) rfl rfl rfl fun hs w' hG ρ h1 h2 h3 h4 h5=>?_;subst hs;have f142:ρ (.tmp 142)=(.slice a n cap):=h4 10 142 rfl rfl;have f143:ρ (.tmp 143)=(.int .i64 (at_ % S)):=h4 11 143 rfl rfl;clear h4 h5;unfold aO;go_simp;unfold xE;refine(HOW.out _ (ag HB4.out hG.out) (at_ % S)).mono ?_;rintro e' w1 ⟨rfl,hb⟩;exact⟨_,rfl,rfl,ag hG.out hb⟩
   ·refine dh (s:=p8) (x:=(.bool q13)) rfl rfl rfl fun hs w' hG ρ h1 h2 h3 h4 h5=>?_;subst hs;have f144:ρ (.tmp 144)=(.int .i64 (dR l.reverse (at_ % S))):=h4 12 144 rfl rfl;clear h4 h5;unfold aO;go_simp;exact⟨congrArg Value.bool Zw.out,hG.out⟩
   ·refine dM rfl fun w' hG ρ h1 h2 h3 h4 h5=>?_;have f141:ρ (.tmp 141)=(.bool p8):=h4 9 141 rfl rfl;have f145:ρ (.tmp 145)=(WT p8 (.bool q13)):=h4 13 145 rfl rfl;have e5:=ZF.out;cases p8 <;> simp only[Bool.false_and,Bool.true_and,Bool.true_or,Bool.false_or]at e5 <;> subst e5;all_goals (try dsimp only[WF,WT]at*;clear h4 h5;unfold aO;go_simp;exact⟨rfl,hG.out⟩)
   refine dM rfl fun w' hG ρ h1 h2 h3 h4 h5=>?_;have f146:ρ (.tmp 146)=(.bool BO):=h4 14 146 rfl rfl;rotate_left
   refine dh (s:=BO) (x:=(.slice a n cap)) rfl rfl rfl fun hs w' hG ρ h1 h2 h3 h4 h5=>?_;subst hs;have f0:ρ (.tmp 0)=.slice a n cap:=h5 0 rfl;rotate_left
   refine dh (s:=BO) (x:=(.int .i64 (at_ % S))) rfl rfl rfl fun hs w' hG ρ h1 h2 h3 h4 h5=>?_;subst hs;have f16:ρ (.tmp 16)=.int .i64 (at_ % S):=h5 16 rfl;rotate_left
   ·refine dh (s:=BO) (x:=(.int .i64 (fM l.reverse (at_ % S)))) rfl rfl rfl fun hs w' hG ρ h1 h2 h3 h4 h5=>?_;subst hs;have f148:ρ (.tmp 148)=(.slice a n cap):=h4 16 148 rfl rfl;have f149:ρ (.tmp 149)=(.int .i64 (at_ % S)):=h4 17 149 rfl rfl;clear h4 h5;unfold aO;go_simp;unfold xE;refine(Ih.out _ (ag HB4.out hG.out) (at_ % S)).mono ?_;rintro e' w1 ⟨rfl,hb⟩;exact⟨_,rfl,rfl,ag hG.out hb⟩
   refine dh (s:=BO) (x:=(.pointer (some ⟨lb,4,none⟩))) rfl rfl rfl fun hs w' hG ρ h1 h2 h3 h4 h5=>?_;subst hs;have f17:ρ (.tmp 17)=.pointer (some ⟨lb,0,none⟩):=h5 17 rfl;rotate_left
   refine dh (s:=BO) (x:=(.int .i64 qv)) rfl rfl rfl fun hs w' hG ρ h1 h2 h3 h4 h5=>?_;subst hs;have f151:ρ (.tmp 151)=(.pointer (some ⟨lb,4,none⟩)):=h4 19 151 rfl rfl;have c:=(QO.out.below hG.out).cell 4 (v:=.int .i64 qv) rfl;rotate_left
   ·refine dh (s:=BO) (x:=(.bool Sr)) rfl rfl rfl fun hs w' hG ρ h1 h2 h3 h4 h5=>?_;subst hs;have f150:ρ (.tmp 150)=(.int .i64 (fM l.reverse (at_ % S))):=h4 18 150 rfl rfl;have f152:ρ (.tmp 152)=(.int .i64 qv):=h4 20 152 rfl rfl;clear h4 h5;unfold aO;go_simp;exact⟨congrArg Value.bool Zr.out,hG.out⟩
   ·refine dM rfl fun w' hG ρ h1 h2 h3 h4 h5=>?_;have f147:ρ (.tmp 147)=(.bool BO):=h4 15 147 rfl rfl;have f153:ρ (.tmp 153)=(WT BO (.bool Sr)):=h4 21 153 rfl rfl;have e5:=Uu.out;cases BO <;> simp only[Bool.false_and,Bool.true_and,Bool.true_or,Bool.false_or]at e5 <;> subst e5;all_goals (try dsimp only[WF,WT]at*;clear h4 h5;unfold aO;go_simp;exact⟨rfl,hG.out⟩)
   refine dM rfl fun w' hG ρ h1 h2 h3 h4 h5=>?_;have f154:ρ (.tmp 154)=(.bool PO):=h4 22 154 rfl rfl;rotate_left
   all_goals (clear h4 h5;unfold aO;go_simp;exact⟨rfl,hG.out⟩)
  case hdone=>
   intro w' hG
   have sW:=hid (ag HB4.out hG)
   clear hG
   go_wp2_with fail
   all_goals (go_ret;exact⟨by rw[HQ.out,jB.out];try rfl,sW.out⟩)
 ·as_aux_lemma=>
  have Uk:Hid (at_.tmod S=at_ % S):=hid (Int.tmod_eq_emod_of_nonneg HAT.out)
  have U5:Hid (¬ S=0):=hid (by have:=HS.out;omega)
  go_wp2_with fail
  obtain⟨q2,hq2⟩:∃ q:Bool,((A.last==7))=q:=⟨_,rfl⟩
  have Ox:=hid hq2
  obtain⟨q6,hq6⟩:∃ q:Bool,((A.last==8))=q:=⟨_,rfl⟩
  have Zn:=hid hq6
  obtain⟨p7,Ko⟩:∃ p:Bool,p=(q2||q6):=⟨_,rfl⟩
  have Zz:=hid Ko
  obtain⟨PK,Gz⟩:∃ q:Bool,(decide ((iy A.stored) < at_))=q:=⟨_,rfl⟩
  have Ur:=hid Gz
  obtain⟨lI,GM⟩:∃ p:Bool,p=(p7&&PK):=⟨_,rfl⟩
  have Uy:=hid GM
  obtain⟨Lj,Gw⟩:∃ q:Bool,(((dR l.reverse (at_ % S))==th))=q:=⟨_,rfl⟩
  have Um:=hid Gw
  obtain⟨p26,GG⟩:∃ p:Bool,p=(lI&&Lj):=⟨_,rfl⟩
  have Ut:=hid GG
  have jB:Hid (fQ S l.reverse ⟨8,th,tx,at_,v,x,why⟩ A=p26):=hid (by
   unfold fQ
   rw[GG,GM,Ko]
   try simp only[←hq2,←hq6,←Gz,←Gw,←xG.out,←uG.out,←Dt.out]
   rw[Bool.eq_iff_iff]
   simp
   all_goals (try (intros;omega)))
  clear hq2 hq6 Ko Gz GM Gw GG
  apply aZ (fun qq=>([(.pointer (some ⟨w2.heap.size,9,none⟩)),(.int .u8 A.last),(.bool q2),(.bool q2),(WF q2 (.pointer (some ⟨w2.heap.size,9,none⟩))),(WF q2 (.int .u8 A.last)),(WF q2 (.bool q6)),(.bool p7),(.bool p7),(WT p7 (.pointer (some ⟨w.heap.size,3,none⟩))),(WT p7 (.int .i64 at_)),(WT p7 (.pointer (some ⟨w2.heap.size,7,none⟩))),(WT p7 (.slice ps A.stored.length cs)),(WT p7 (.int .i64 (iy A.stored))),(WT p7 (.bool PK)),(.bool lI),(.bool lI),(WT lI (.slice a n cap)),(WT lI (.pointer (some ⟨w.heap.size,3,none⟩))),(WT lI (.int .i64 at_)),(WT lI (.int .i64 S)),(WT lI (.int .i64 (at_ % S))),(WT lI (.int .i64 (dR l.reverse (at_ % S)))),(WT lI (.pointer (some ⟨w.heap.size,1,none⟩))),(WT lI (.int .i64 th)),(WT lI (.bool Lj)),(.bool p26),(.bool p26)]:List Value).getD qq undef) (fun w'=>Below w4.heap.size w4 w')
  focus (simp[ay,aB,Act.put,List.getD];rfl)
  case hm=>kernel_rfl
  case hd=>kernel_rfl
  case hb=>kernel_rfl
  case iR=>kernel_rfl
  case hsz=>kernel_rfl
  case h0=>exact aj (af _)
  case hstep=>
   refine⟨?_,?_,?_,?_,?_,?_,?_,?_,?_,?_,?_,?_,?_,?_,?_,?_,?_,?_,?_,?_,?_,?_,?_,?_,?_,?_,?_,?_,trivial⟩
   refine dM rfl fun w' hG ρ h1 h2 h3 h4 h5=>?_;have f11:ρ (.tmp 11)=.pointer (some ⟨w2.heap.size,0,none⟩):=h5 11 rfl;rotate_left
   refine dM rfl fun w' hG ρ h1 h2 h3 h4 h5=>?_;have f240:ρ (.tmp 240)=(.pointer (some ⟨w2.heap.size,9,none⟩)):=h4 0 240 rfl rfl;have c:=(dX.out.below hG.out).cell 9 (v:=.int .u8 A.last) rfl;rotate_left
   ·refine dM rfl fun w' hG ρ h1 h2 h3 h4 h5=>?_;have f241:ρ (.tmp 241)=(.int .u8 A.last):=h4 1 241 rfl rfl;clear h4 h5;unfold aO;go_simp;exact⟨congrArg Value.bool Ox.out,hG.out⟩
   refine dM rfl fun w' hG ρ h1 h2 h3 h4 h5=>?_;have f242:ρ (.tmp 242)=(.bool q2):=h4 2 242 rfl rfl;rotate_left
   refine vI (s:=q2) (x:=(.pointer (some ⟨w2.heap.size,9,none⟩))) rfl rfl rfl fun hs w' hG ρ h1 h2 h3 h4 h5=>?_;subst hs;have f11:ρ (.tmp 11)=.pointer (some ⟨w2.heap.size,0,none⟩):=h5 11 rfl;rotate_left
   refine vI (s:=q2) (x:=(.int .u8 A.last)) rfl rfl rfl fun hs w' hG ρ h1 h2 h3 h4 h5=>?_;subst hs;have f244:ρ (.tmp 244)=(.pointer (some ⟨w2.heap.size,9,none⟩)):=h4 4 244 rfl rfl;have c:=(dX.out.below hG.out).cell 9 (v:=.int .u8 A.last) rfl;rotate_left
   ·refine vI (s:=q2) (x:=(.bool q6)) rfl rfl rfl fun hs w' hG ρ h1 h2 h3 h4 h5=>?_;subst hs;have f245:ρ (.tmp 245)=(.int .u8 A.last):=h4 5 245 rfl rfl;clear h4 h5;unfold aO;go_simp;exact⟨congrArg Value.bool Zn.out,hG.out⟩
   ·refine dM rfl fun w' hG ρ h1 h2 h3 h4 h5=>?_;have f243:ρ (.tmp 243)=(.bool q2):=h4 3 243 rfl rfl;have f246:ρ (.tmp 246)=(WF q2 (.bool q6)):=h4 6 246 rfl rfl;have e5:=Zz.out;cases q2 <;> simp only[Bool.false_and,Bool.true_and,Bool.true_or,Bool.false_or]at e5 <;> subst e5;all_goals (try dsimp only[WF,WT]at*;clear h4 h5;unfold aO;go_simp;exact⟨rfl,hG.out⟩)
   refine dM rfl fun w' hG ρ h1 h2 h3 h4 h5=>?_;have f247:ρ (.tmp 247)=(.bool p7):=h4 7 247 rfl rfl;rotate_left
   refine dh (s:=p7) (x:=(.pointer (some ⟨w.heap.size,3,none⟩))) rfl rfl rfl fun hs w' hG ρ h1 h2 h3 h4 h5=>?_;subst hs;have f6:ρ (.tmp 6)=.pointer (some ⟨w.heap.size,0,none⟩):=h5 6 rfl;rotate_left
   refine dh (s:=p7) (x:=(.int .i64 at_)) rfl rfl rfl fun hs w' hG ρ h1 h2 h3 h4 h5=>?_;subst hs;have f249:ρ (.tmp 249)=(.pointer (some ⟨w.heap.size,3,none⟩)):=h4 9 249 rfl rfl;have c:=(lV.out.below hG.out).cell 3 (v:=.int .i64 at_) rfl;rotate_left
   refine dh (s:=p7) (x:=(.pointer (some ⟨w2.heap.size,7,none⟩))) rfl rfl rfl fun hs w' hG ρ h1 h2 h3 h4 h5=>?_;subst hs;have f11:ρ (.tmp 11)=.pointer (some ⟨w2.heap.size,0,none⟩):=h5 11 rfl;rotate_left
   refine dh (s:=p7) (x:=(.slice ps A.stored.length cs)) rfl rfl rfl fun hs w' hG ρ h1 h2 h3 h4 h5=>?_;subst hs;have f251:ρ (.tmp 251)=(.pointer (some ⟨w2.heap.size,7,none⟩)):=h4 11 251 rfl rfl;have c:=(dX.out.below hG.out).cell 7 (v:=.slice ps A.stored.length cs) rfl;rotate_left
   ·refine dh (s:=p7) (x:=(.int .i64 (iy A.stored))) rfl rfl rfl fun hs w' hG ρ h1 h2 h3 h4 h5=>?_;subst hs;have f252:ρ (.tmp 252)=(.slice ps A.stored.length cs):=h4 12 252 rfl rfl;clear h4 h5;unfold aO;go_simp;unfold xE;refine(last_any A.stored _ _ ((HR4.out.rs.Sl).below hG.out) (by have h1:=Bo.out.s;rw[List.length_reverse]at h1;have:=HLEN.out;omega)).mono ?_;rintro e' w1 ⟨rfl,rfl⟩;exact⟨_,rfl,rfl,hG.out⟩
   ·refine dh (s:=p7) (x:=(.bool PK)) rfl rfl rfl fun hs w' hG ρ h1 h2 h3 h4 h5=>?_;subst hs;have f250:ρ (.tmp 250)=(.int .i64 at_):=h4 10 250 rfl rfl;have f253:ρ (.tmp 253)=(.int .i64 (iy A.stored)):=h4 13 253 rfl rfl;clear h4 h5;unfold aO;go_simp;exact⟨congrArg Value.bool Ur.out,hG.out⟩
   ·refine dM rfl fun w' hG ρ h1 h2 h3 h4 h5=>?_;have f248:ρ (.tmp 248)=(.bool p7):=h4 8 248 rfl rfl;have f254:ρ (.tmp 254)=(WT p7 (.bool PK)):=h4 14 254 rfl rfl;have e5:=Uy.out;cases p7 <;> simp only[Bool.false_and,Bool.true_and,Bool.true_or,Bool.false_or]at e5 <;> subst e5;all_goals (try dsimp only[WF,WT]at*;clear h4 h5;unfold aO;go_simp;exact⟨rfl,hG.out⟩)
   refine dM rfl fun w' hG ρ h1 h2 h3 h4 h5=>?_;have f255:ρ (.tmp 255)=(.bool lI):=h4 15 255 rfl rfl;rotate_left
   refine dh (s:=lI) (x:=(.slice a n cap)) rfl rfl rfl fun hs w' hG ρ h1 h2 h3 h4 h5=>?_;subst hs;have f0:ρ (.tmp 0)=.slice a n cap:=h5 0 rfl;rotate_left
   refine dh (s:=lI) (x:=(.pointer (some ⟨w.heap.size,3,none⟩))) rfl rfl rfl fun hs w' hG ρ h1 h2 h3 h4 h5=>?_;subst hs;have f6:ρ (.tmp 6)=.pointer (some ⟨w.heap.size,0,none⟩):=h5 6 rfl;rotate_left
   refine dh (s:=lI) (x:=(.int .i64 at_)) rfl rfl rfl fun hs w' hG ρ h1 h2 h3 h4 h5=>?_;subst hs;have f258:ρ (.tmp 258)=(.pointer (some ⟨w.heap.size,3,none⟩)):=h4 18 258 rfl rfl;have c:=(lV.out.below hG.out).cell 3 (v:=.int .i64 at_) rfl;rotate_left
   refine dh (s:=lI) (x:=(.int .i64 S)) rfl rfl rfl fun hs w' hG ρ h1 h2 h3 h4 h5=>?_;subst hs;have f4:ρ (.tmp 4)=.int .i64 S:=h5 4 rfl;rotate_left
   refine dh (s:=lI) (x:=(.int .i64 (at_ % S))) rfl rfl rfl fun hs w' hG ρ h1 h2 h3 h4 h5=>?_;subst hs;have f259:ρ (.tmp 259)=(.int .i64 at_):=h4 19 259 rfl rfl;have f260:ρ (.tmp 260)=(.int .i64 S):=h4 20 260 rfl rfl;have y1:=Uk.out;have y2:=U5.out;rotate_left
   ·refine dh (s:=lI) (x:=(.int .i64 (dR l.reverse (at_ % S)))) rfl rfl rfl fun hs w' hG ρ h1 h2 h3 h4 h5=>?_;subst hs;have f257:ρ (.tmp 257)=(.slice a n cap):=h4 17 257 rfl rfl;have f261:ρ (.tmp 261)=(.int .i64 (at_ % S)):=h4 21 261 rfl rfl;clear h4 h5;unfold aO;go_simp;unfold xE;refine(HOW.out _ (ag HB4.out hG.out) (at_ % S)).mono ?_;rintro e' w1 ⟨rfl,hb⟩;exact⟨_,rfl,rfl,ag hG.out hb⟩
   refine dh (s:=lI) (x:=(.pointer (some ⟨w.heap.size,1,none⟩))) rfl rfl rfl fun hs w' hG ρ h1 h2 h3 h4 h5=>?_;subst hs;have f6:ρ (.tmp 6)=.pointer (some ⟨w.heap.size,0,none⟩):=h5 6 rfl;rotate_left
   refine dh (s:=lI) (x:=(.int .i64 th)) rfl rfl rfl fun hs w' hG ρ h1 h2 h3 h4 h5=>?_;subst hs;have f263:ρ (.tmp 263)=(.pointer (some ⟨w.heap.size,1,none⟩)):=h4 23 263 rfl rfl;have c:=(lV.out.below hG.out).cell 1 (v:=.int .i64 th) rfl;rotate_left
   ·refine dh (s:=lI) (x:=(.bool Lj)) rfl rfl rfl fun hs w' hG ρ h1 h2 h3 h4 h5=>?_;subst hs;have f262:ρ (.tmp 262)=(.int .i64 (dR l.reverse (at_ % S))):=h4 22 262 rfl rfl;have f264:ρ (.tmp 264)=(.int .i64 th):=h4 24 264 rfl rfl;clear h4 h5;unfold aO;go_simp;exact⟨congrArg Value.bool Um.out,hG.out⟩
   ·refine dM rfl fun w' hG ρ h1 h2 h3 h4 h5=>?_;have f256:ρ (.tmp 256)=(.bool lI):=h4 16 256 rfl rfl;have f265:ρ (.tmp 265)=(WT lI (.bool Lj)):=h4 25 265 rfl rfl;have e5:=Ut.out;cases lI <;> simp only[Bool.false_and,Bool.true_and,Bool.true_or,Bool.false_or]at e5 <;> subst e5;all_goals (try dsimp only[WF,WT]at*;clear h4 h5;unfold aO;go_simp;exact⟨rfl,hG.out⟩)
   refine dM rfl fun w' hG ρ h1 h2 h3 h4 h5=>?_;have f266:ρ (.tmp 266)=(.bool p26):=h4 26 266 rfl rfl;rotate_left
   all_goals (clear h4 h5;unfold aO;go_simp;exact⟨rfl,hG.out⟩)
  case hdone=>
   intro w' hG
   have sW:=hid (ag HB4.out hG)
   clear hG e1
   go_wp2_with fail
   all_goals (go_ret;exact⟨by rw[HQ.out,jB.out];try rfl,sW.out⟩)
 ·as_aux_lemma=>
  by_cases hl:A.last=10∨A.last=11
  ·skip
   have hfl:=LD.out.2.2 (by omega)
   obtain⟨y,hy⟩:∃ y,A.locked[A.freed.length]? =some y:=⟨_,List.getElem?_eq_getElem hfl⟩
   have hhd:=yU (x:=at_) hy
   obtain⟨gl,rfl⟩:=nG HR4.out.rl (by omega)
   have HY:=hid hy
   have LG:=hid hfl
   have ZR:=hid hhd
   clear hfl hy hhd hl
   have OH:Hid (w4.cell? ⟨gl,A.freed.length,none⟩=some (.int .i64 y)):=hid (by have h1:=qZ HR4.out.rl A.freed.length LG.out;rw[h1];have h2:=HY.out;rw[List.getElem?_eq_getElem LG.out]at h2;rw[Option.some.inj h2])
   have jl:(A.freed.length:Int) < (A.locked.length:Int):=by have:=LG.out;omega
   have Vz:decide (A.freed.length < A.locked.length)=true:=decide_eq_true LG.out
   have Vy:(0:Int)≤(A.freed.length:Int):=by omega
   have JL:=hid (And.intro jl (And.intro Vz Vy))
   clear jl Vz Vy
   go_wp2_with fail
   obtain⟨q2,hq2⟩:∃ q:Bool,((A.last==10))=q:=⟨_,rfl⟩
   have Ox:=hid hq2
   obtain⟨q6,hq6⟩:∃ q:Bool,((A.last==11))=q:=⟨_,rfl⟩
   have Zn:=hid hq6
   obtain⟨p7,Ko⟩:∃ p:Bool,p=(q2||q6):=⟨_,rfl⟩
   have Zz:=hid Ko
   obtain⟨PI,Gx⟩:∃ q:Bool,((at_==y))=q:=⟨_,rfl⟩
   have Un:=hid Gx
   obtain⟨Q8,GI⟩:∃ p:Bool,p=(p7&&PI):=⟨_,rfl⟩
   have QJ:=hid GI
   have jB:Hid (fQ S l.reverse ⟨11,th,tx,at_,v,x,why⟩ A=Q8):=hid (by
    unfold fQ
    rw[GI,Ko]
    try simp only[←hq2,←hq6,←Gx,←xG.out,←uG.out,←Dt.out]
    rw[Bool.eq_iff_iff]
    simp[ZR.out]
    all_goals (try (intros;omega)))
   clear hq2 hq6 Ko Gx GI
   apply aZ (fun qq=>([(.pointer (some ⟨w2.heap.size,9,none⟩)),(.int .u8 A.last),(.bool q2),(.bool q2),(WF q2 (.pointer (some ⟨w2.heap.size,9,none⟩))),(WF q2 (.int .u8 A.last)),(WF q2 (.bool q6)),(.bool p7),(.bool p7),(WT p7 (.pointer (some ⟨w.heap.size,3,none⟩))),(WT p7 (.int .i64 at_)),(WT p7 (.pointer (some ⟨w2.heap.size,4,none⟩))),(WT p7 (.slice (some ⟨gl,0,none⟩) A.locked.length cl)),(WT p7 (.pointer (some ⟨w2.heap.size,5,none⟩))),(WT p7 (.slice pf A.freed.length cf)),(WT p7 (.int .i64 ((A.freed.length:Nat):Int))),(WT p7 (.pointer (some ⟨gl,A.freed.length,none⟩))),(WT p7 (.int .i64 y)),(WT p7 (.bool PI)),(.bool Q8),(.bool Q8)]:List Value).getD qq undef) (fun w'=>Below w4.heap.size w4 w')
   focus (simp[ay,aB,Act.put,List.getD];rfl)
   case hm=>kernel_rfl
   case hd=>kernel_rfl
   case hb=>kernel_rfl
   case iR=>kernel_rfl
   case hsz=>kernel_rfl
   case h0=>exact aj (af _)
   case hstep=>
    refine⟨?_,?_,?_,?_,?_,?_,?_,?_,?_,?_,?_,?_,?_,?_,?_,?_,?_,?_,?_,?_,?_,trivial⟩
    refine dM rfl fun w' hG ρ h1 h2 h3 h4 h5=>?_;have f11:ρ (.tmp 11)=.pointer (some ⟨w2.heap.size,0,none⟩):=h5 11 rfl;rotate_left
    refine dM rfl fun w' hG ρ h1 h2 h3 h4 h5=>?_;have f315:ρ (.tmp 315)=(.pointer (some ⟨w2.heap.size,9,none⟩)):=h4 0 315 rfl rfl;have c:=(dX.out.below hG.out).cell 9 (v:=.int .u8 A.last) rfl;rotate_left
    ·refine dM rfl fun w' hG ρ h1 h2 h3 h4 h5=>?_;have f316:ρ (.tmp 316)=(.int .u8 A.last):=h4 1 316 rfl rfl;clear h4 h5;unfold aO;go_simp;exact⟨congrArg Value.bool Ox.out,hG.out⟩
    refine dM rfl fun w' hG ρ h1 h2 h3 h4 h5=>?_;have f317:ρ (.tmp 317)=(.bool q2):=h4 2 317 rfl rfl;rotate_left
    refine vI (s:=q2) (x:=(.pointer (some ⟨w2.heap.size,9,none⟩))) rfl rfl rfl fun hs w' hG ρ h1 h2 h3 h4 h5=>?_;subst hs;have f11:ρ (.tmp 11)=.pointer (some ⟨w2.heap.size,0,none⟩):=h5 11 rfl;rotate_left
    refine vI (s:=q2) (x:=(.int .u8 A.last)) rfl rfl rfl fun hs w' hG ρ h1 h2 h3 h4 h5=>?_;subst hs;have f319:ρ (.tmp 319)=(.pointer (some ⟨w2.heap.size,9,none⟩)):=h4 4 319 rfl rfl;have c:=(dX.out.below hG.out).cell 9 (v:=.int .u8 A.last) rfl;rotate_left
    ·refine vI (s:=q2) (x:=(.bool q6)) rfl rfl rfl fun hs w' hG ρ h1 h2 h3 h4 h5=>?_;subst hs;have f320:ρ (.tmp 320)=(.int .u8 A.last):=h4 5 320 rfl rfl;clear h4 h5;unfold aO;go_simp;exact⟨congrArg Value.bool Zn.out,hG.out⟩
    ·refine dM rfl fun w' hG ρ h1 h2 h3 h4 h5=>?_;have f318:ρ (.tmp 318)=(.bool q2):=h4 3 318 rfl rfl;have f321:ρ (.tmp 321)=(WF q2 (.bool q6)):=h4 6 321 rfl rfl;have e5:=Zz.out;cases q2 <;> simp only[Bool.false_and,Bool.true_and,Bool.true_or,Bool.false_or]at e5 <;> subst e5;all_goals (try dsimp only[WF,WT]at*;clear h4 h5;unfold aO;go_simp;exact⟨rfl,hG.out⟩)
    refine dM rfl fun w' hG ρ h1 h2 h3 h4 h5=>?_;have f322:ρ (.tmp 322)=(.bool p7):=h4 7 322 rfl rfl;rotate_left
    refine dh (s:=p7) (x:=(.pointer (some ⟨w.heap.size,3,none⟩))) rfl rfl rfl fun hs w' hG ρ h1 h2 h3 h4 h5=>?_;subst hs;have f6:ρ (.tmp 6)=.pointer (some ⟨w.heap.size,0,none⟩):=h5 6 rfl;rotate_left
    refine dh (s:=p7) (x:=(.int .i64 at_)) rfl rfl rfl fun hs w' hG ρ h1 h2 h3 h4 h5=>?_;subst hs;have f324:ρ (.tmp 324)=(.pointer (some ⟨w.heap.size,3,none⟩)):=h4 9 324 rfl rfl;have c:=(lV.out.below hG.out).cell 3 (v:=.int .i64 at_) rfl;rotate_left
    refine dh (s:=p7) (x:=(.pointer (some ⟨w2.heap.size,4,none⟩))) rfl rfl rfl fun hs w' hG ρ h1 h2 h3 h4 h5=>?_;subst hs;have f11:ρ (.tmp 11)=.pointer (some ⟨w2.heap.size,0,none⟩):=h5 11 rfl;rotate_left
    refine dh (s:=p7) (x:=(.slice (some ⟨gl,0,none⟩) A.locked.length cl)) rfl rfl rfl fun hs w' hG ρ h1 h2 h3 h4 h5=>?_;subst hs;have f326:ρ (.tmp 326)=(.pointer (some ⟨w2.heap.size,4,none⟩)):=h4 11 326 rfl rfl;have c:=(dX.out.below hG.out).cell 4 (v:=.slice (some ⟨gl,0,none⟩) A.locked.length cl) rfl;rotate_left
    refine dh (s:=p7) (x:=(.pointer (some ⟨w2.heap.size,5,none⟩))) rfl rfl rfl fun hs w' hG ρ h1 h2 h3 h4 h5=>?_;subst hs;have f11:ρ (.tmp 11)=.pointer (some ⟨w2.heap.size,0,none⟩):=h5 11 rfl;rotate_left
    refine dh (s:=p7) (x:=(.slice pf A.freed.length cf)) rfl rfl rfl fun hs w' hG ρ h1 h2 h3 h4 h5=>?_;subst hs;have f328:ρ (.tmp 328)=(.pointer (some ⟨w2.heap.size,5,none⟩)):=h4 13 328 rfl rfl;have c:=(dX.out.below hG.out).cell 5 (v:=.slice pf A.freed.length cf) rfl;rotate_left
    refine dh (s:=p7) (x:=(.int .i64 ((A.freed.length:Nat):Int))) rfl rfl rfl fun hs w' hG ρ h1 h2 h3 h4 h5=>?_;subst hs;have f329:ρ (.tmp 329)=(.slice pf A.freed.length cf):=h4 14 329 rfl rfl;rotate_left
    refine dh (s:=p7) (x:=(.pointer (some ⟨gl,A.freed.length,none⟩))) rfl rfl rfl fun hs w' hG ρ h1 h2 h3 h4 h5=>?_;subst hs;have f327:ρ (.tmp 327)=(.slice (some ⟨gl,0,none⟩) A.locked.length cl):=h4 12 327 rfl rfl;have f330:ρ (.tmp 330)=(.int .i64 ((A.freed.length:Nat):Int)):=h4 15 330 rfl rfl;obtain⟨y1,y2,y3⟩:=JL.out;rotate_left
    refine dh (s:=p7) (x:=(.int .i64 y)) rfl rfl rfl fun hs w' hG ρ h1 h2 h3 h4 h5=>?_;subst hs;have f331:ρ (.tmp 331)=(.pointer (some ⟨gl,A.freed.length,none⟩)):=h4 16 331 rfl rfl;have c:=later hG.out OH.out;rotate_left
    ·refine dh (s:=p7) (x:=(.bool PI)) rfl rfl rfl fun hs w' hG ρ h1 h2 h3 h4 h5=>?_;subst hs;have f325:ρ (.tmp 325)=(.int .i64 at_):=h4 10 325 rfl rfl;have f332:ρ (.tmp 332)=(.int .i64 y):=h4 17 332 rfl rfl;clear h4 h5;unfold aO;go_simp;exact⟨congrArg Value.bool Un.out,hG.out⟩
    ·refine dM rfl fun w' hG ρ h1 h2 h3 h4 h5=>?_;have f323:ρ (.tmp 323)=(.bool p7):=h4 8 323 rfl rfl;have f333:ρ (.tmp 333)=(WT p7 (.bool PI)):=h4 18 333 rfl rfl;have e5:=QJ.out;cases p7 <;> simp only[Bool.false_and,Bool.true_and,Bool.true_or,Bool.false_or]at e5 <;> subst e5;all_goals (try dsimp only[WF,WT]at*;clear h4 h5;unfold aO;go_simp;exact⟨rfl,hG.out⟩)
    refine dM rfl fun w' hG ρ h1 h2 h3 h4 h5=>?_;have f334:ρ (.tmp 334)=(.bool Q8):=h4 19 334 rfl rfl;rotate_left
    all_goals (clear h4 h5;unfold aO;go_simp;exact⟨rfl,hG.out⟩)
   case hdone=>
    intro w' hG
    have sW:=hid (ag HB4.out hG)
    clear hG e1
    go_wp2_with fail
    all_goals (go_ret;exact⟨by rw[HQ.out,jB.out];try rfl,sW.out⟩)
  ·skip
   have x1:(A.last==10)=false:=by rw[beq_eq_false_iff_ne];omega
   have x2:(A.last==11)=false:=by rw[beq_eq_false_iff_ne];omega
   have jB:Hid (fQ S l.reverse ⟨11,th,tx,at_,v,x,why⟩ A=false):=hid (by unfold fQ;simp at x1 x2;simp[x1,x2])
   clear hl
   have k9:=dX.out.cell 9 (v:=.int .u8 A.last) rfl
   go_wp2_with fail
   go_quiet (fail)
   go_wp2_with fail
   all_goals (go_ret;exact⟨by rw[HQ.out,jB.out];try rfl,ai HB4.out _⟩)
 ·as_aux_lemma=>
  by_cases hl:A.last=8∨A.last=9
  ·skip
   have hfl:=LD.out.2.2 (by omega)
   obtain⟨y,hy⟩:∃ y,A.locked[A.freed.length]? =some y:=⟨_,List.getElem?_eq_getElem hfl⟩
   have hhd:=yU (x:=at_) hy
   obtain⟨gl,rfl⟩:=nG HR4.out.rl (by omega)
   have HY:=hid hy
   have LG:=hid hfl
   have ZR:=hid hhd
   clear hfl hy hhd hl
   have OH:Hid (w4.cell? ⟨gl,A.freed.length,none⟩=some (.int .i64 y)):=hid (by have h1:=qZ HR4.out.rl A.freed.length LG.out;rw[h1];have h2:=HY.out;rw[List.getElem?_eq_getElem LG.out]at h2;rw[Option.some.inj h2])
   have jl:(A.freed.length:Int) < (A.locked.length:Int):=by have:=LG.out;omega
   have Vz:decide (A.freed.length < A.locked.length)=true:=decide_eq_true LG.out
   have Vy:(0:Int)≤(A.freed.length:Int):=by omega
   have JL:=hid (And.intro jl (And.intro Vz Vy))
   clear jl Vz Vy
   go_wp2_with fail
   go_loopw [19,20] (fun y i wr=>∃ k:Nat,k≤A.stored.length∧i=.int .i64 (k:Int)∧Hid (bU wr w4.heap.size 3 1 y (oh S [] (A.stored.take k)).length (fG (oh S [] (A.stored.take k))))∧Hid (Below w4.heap.size w4 wr)) (fun _ i _=>A.stored.length-(intOf i).toNat)
   case atStart=>exact⟨0,Nat.zero_le _,rfl,hid (bU.nil _ _ _ _),hid (af _)⟩
   case round=>
    obtain⟨k,hk,rfl,QI,fB⟩:=hrel
    have k7:=(dX.out.below fB.out).cell 7 (v:=.slice ps A.stored.length cs) rfl
    obtain⟨py,cy,hyv⟩:=QI.out.shape
    subst hyv
    by_cases hlt:k < A.stored.length
    ·obtain⟨gs,hgs⟩:=nG HR4.out.rs (by omega)
     subst hgs
     have hcy:=later fB.out (qZ HR4.out.rs k hlt)
     have xR:=hid (List.take_succ_eq_append_getElem hlt)
     have Wp:=hid (HST.out A.stored[k] (List.getElem_mem hlt))
     generalize A.stored[k]=y0 at hcy xR Wp
     have j1:decide ((k:Int) < (A.stored.length:Int))=true:=by rw[decide_eq_true_iff];omega
     have j2:(0:Int)≤(k:Int):=by omega
     have j3:IntKind.i64.wrap ((k:Int)+1)=(k:Int)+1:=IntWalk.i64_in _ (by have:=(show A.stored.length≤1048576 from by have h1:=Bo.out.s;rw[List.length_reverse]at h1;have:=HLEN.out;omega);omega)
     have j4:decide (k < A.stored.length)=true:=decide_eq_true hlt
     have j5:(k:Int) < (A.stored.length:Int):=by omega
     have z1:y0.tmod S=y0 % S:=Int.tmod_eq_emod_of_nonneg Wp.out
     have z2:¬ S=0:=by have:=HS.out;omega
     have bf:=hid hlt
     clear hlt hk
     go_wp2_with fail
     refine(BK _ (y0 % S) w4.heap.size _ _ QI.out (by have h0:=DI S (A.stored.take k) [];have h1:=Bo.out.s;rw[List.length_reverse]at h1;have:=HLEN.out;rw[List.length_take]at h0;simp only[List.length_nil]at h0;omega) fB.out.size).mono ?_
     rintro e' w6 ⟨y6,rfl,hb6,Qc⟩
     have U7:=hid Qc
     have UR:=hid (ag fB.out hb6)
     clear hb6 Qc hcy k7
     go_wp2_with fail
     go_roundw
     case rel=>exact⟨k+1,bf.out,by go_num,hid (by rw[xR.out,Ai];exact U7.out),UR⟩
     case measure=>simp[intOf];have:=bf.out;omega
    ·obtain rfl:k=A.stored.length:=by omega
     have j1:decide ((A.stored.length:Int) < (A.stored.length:Int))=false:=by rw[decide_eq_false_iff_not];omega
     rw[List.take_length]
     obtain⟨N,hN⟩:∃ N,N=(oh S [] A.stored).length:=⟨_,rfl⟩
     rw[←hN]
     have HN:=hid hN
     clear hN
     go_wp2_with fail
     clear k7 j1
     have hN:=HN.out
     obtain⟨q2,hq2⟩:∃ q:Bool,((A.last==8))=q:=⟨_,rfl⟩
     have Ox:=hid hq2
     obtain⟨q9,Yl⟩:∃ q:Bool,((((N:Nat):Int)==((A.locked.length:Nat):Int)))=q:=⟨_,rfl⟩
     have zZ:=hid Yl
     obtain⟨p10,Tu⟩:∃ p:Bool,p=(q2&&q9):=⟨_,rfl⟩
     have ZG:=hid Tu
     obtain⟨PK,Gz⟩:∃ q:Bool,((A.last==9))=q:=⟨_,rfl⟩
     have Ur:=hid Gz
     obtain⟨lI,GM⟩:∃ p:Bool,p=(p10||PK):=⟨_,rfl⟩
     have Uy:=hid GM
     obtain⟨Sm,SX⟩:∃ q:Bool,((at_==y))=q:=⟨_,rfl⟩
     have Zp:=hid SX
     obtain⟨p27,Tj⟩:∃ p:Bool,p=(lI&&Sm):=⟨_,rfl⟩
     have ZA:=hid Tj
     have jB:Hid (fQ S l.reverse ⟨9,th,tx,at_,v,x,why⟩ A=p27):=hid (by
      unfold fQ
      rw[Tj,GM,Tu]
      try simp only[←hq2,←Yl,←Gz,←SX,←xG.out,←uG.out,←Dt.out]
      rw[Bool.eq_iff_iff]
      simp[ZR.out,hN]
      all_goals (try (intros;omega)))
     clear hq2 Yl Tu Gz GM SX Tj hN
     apply aZ (fun qq=>([(.pointer (some ⟨w2.heap.size,9,none⟩)),(.int .u8 A.last),(.bool q2),(.bool q2),(WT q2 (.slice py N cy)),(WT q2 (.int .i64 ((N:Nat):Int))),(WT q2 (.pointer (some ⟨w2.heap.size,4,none⟩))),(WT q2 (.slice (some ⟨gl,0,none⟩) A.locked.length cl)),(WT q2 (.int .i64 ((A.locked.length:Nat):Int))),(WT q2 (.bool q9)),(.bool p10),(.bool p10),(WF p10 (.pointer (some ⟨w2.heap.size,9,none⟩))),(WF p10 (.int .u8 A.last)),(WF p10 (.bool PK)),(.bool lI),(.bool lI),(WT lI (.pointer (some ⟨w.heap.size,3,none⟩))),(WT lI (.int .i64 at_)),(WT lI (.pointer (some ⟨w2.heap.size,4,none⟩))),(WT lI (.slice (some ⟨gl,0,none⟩) A.locked.length cl)),(WT lI (.pointer (some ⟨w2.heap.size,5,none⟩))),(WT lI (.slice pf A.freed.length cf)),(WT lI (.int .i64 ((A.freed.length:Nat):Int))),(WT lI (.pointer (some ⟨gl,A.freed.length,none⟩))),(WT lI (.int .i64 y)),(WT lI (.bool Sm)),(.bool p27),(.bool p27)]:List Value).getD qq undef) (fun w'=>Below wr.heap.size wr w')
     focus (simp[ay,aB,Act.put,List.getD];rfl)
     case hm=>kernel_rfl
     case hd=>kernel_rfl
     case hb=>kernel_rfl
     case iR=>kernel_rfl
     case hsz=>kernel_rfl
     case h0=>exact aj (af _)
     case hstep=>
      refine⟨?_,?_,?_,?_,?_,?_,?_,?_,?_,?_,?_,?_,?_,?_,?_,?_,?_,?_,?_,?_,?_,?_,?_,?_,?_,?_,?_,?_,?_,trivial⟩
      refine dM rfl fun w' hG ρ h1 h2 h3 h4 h5=>?_;have f11:ρ (.tmp 11)=.pointer (some ⟨w2.heap.size,0,none⟩):=h5 11 rfl;rotate_left
      refine dM rfl fun w' hG ρ h1 h2 h3 h4 h5=>?_;have f285:ρ (.tmp 285)=(.pointer (some ⟨w2.heap.size,9,none⟩)):=h4 0 285 rfl rfl;have c:=(dX.out.below (ag fB.out hG.out)).cell 9 (v:=.int .u8 A.last) rfl;rotate_left
      ·refine dM rfl fun w' hG ρ h1 h2 h3 h4 h5=>?_;have f286:ρ (.tmp 286)=(.int .u8 A.last):=h4 1 286 rfl rfl;clear h4 h5;unfold aO;go_simp;exact⟨congrArg Value.bool Ox.out,hG.out⟩
      refine dM rfl fun w' hG ρ h1 h2 h3 h4 h5=>?_;have f287:ρ (.tmp 287)=(.bool q2):=h4 2 287 rfl rfl;rotate_left
      refine dh (s:=q2) (x:=(.slice py N cy)) rfl rfl rfl fun hs w' hG ρ h1 h2 h3 h4 h5=>?_;subst hs;have f19:ρ (.tmp 19)=.slice py N cy:=h5 19 rfl;rotate_left
      refine dh (s:=q2) (x:=(.int .i64 ((N:Nat):Int))) rfl rfl rfl fun hs w' hG ρ h1 h2 h3 h4 h5=>?_;subst hs;have f289:ρ (.tmp 289)=(.slice py N cy):=h4 4 289 rfl rfl;rotate_left
      refine dh (s:=q2) (x:=(.pointer (some ⟨w2.heap.size,4,none⟩))) rfl rfl rfl fun hs w' hG ρ h1 h2 h3 h4 h5=>?_;subst hs;have f11:ρ (.tmp 11)=.pointer (some ⟨w2.heap.size,0,none⟩):=h5 11 rfl;rotate_left
      refine dh (s:=q2) (x:=(.slice (some ⟨gl,0,none⟩) A.locked.length cl)) rfl rfl rfl fun hs w' hG ρ h1 h2 h3 h4 h5=>?_;subst hs;have f291:ρ (.tmp 291)=(.pointer (some ⟨w2.heap.size,4,none⟩)):=h4 6 291 rfl rfl;have c:=(dX.out.below (ag fB.out hG.out)).cell 4 (v:=.slice (some ⟨gl,0,none⟩) A.locked.length cl) rfl;rotate_left
      refine dh (s:=q2) (x:=(.int .i64 ((A.locked.length:Nat):Int))) rfl rfl rfl fun hs w' hG ρ h1 h2 h3 h4 h5=>?_;subst hs;have f292:ρ (.tmp 292)=(.slice (some ⟨gl,0,none⟩) A.locked.length cl):=h4 7 292 rfl rfl;rotate_left
      ·refine dh (s:=q2) (x:=(.bool q9)) rfl rfl rfl fun hs w' hG ρ h1 h2 h3 h4 h5=>?_;subst hs;have f290:ρ (.tmp 290)=(.int .i64 ((N:Nat):Int)):=h4 5 290 rfl rfl;have f293:ρ (.tmp 293)=(.int .i64 ((A.locked.length:Nat):Int)):=h4 8 293 rfl rfl;clear h4 h5;unfold aO;go_simp;exact⟨congrArg Value.bool zZ.out,hG.out⟩
      ·refine dM rfl fun w' hG ρ h1 h2 h3 h4 h5=>?_;have f288:ρ (.tmp 288)=(.bool q2):=h4 3 288 rfl rfl;have f294:ρ (.tmp 294)=(WT q2 (.bool q9)):=h4 9 294 rfl rfl;have e5:=ZG.out;cases q2 <;> simp only[Bool.false_and,Bool.true_and,Bool.true_or,Bool.false_or]at e5 <;> subst e5;all_goals (try dsimp only[WF,WT]at*;clear h4 h5;unfold aO;go_simp;exact⟨rfl,hG.out⟩)
      refine dM rfl fun w' hG ρ h1 h2 h3 h4 h5=>?_;have f295:ρ (.tmp 295)=(.bool p10):=h4 10 295 rfl rfl;rotate_left
      refine vI (s:=p10) (x:=(.pointer (some ⟨w2.heap.size,9,none⟩))) rfl rfl rfl fun hs w' hG ρ h1 h2 h3 h4 h5=>?_;subst hs;have f11:ρ (.tmp 11)=.pointer (some ⟨w2.heap.size,0,none⟩):=h5 11 rfl;rotate_left
      refine vI (s:=p10) (x:=(.int .u8 A.last)) rfl rfl rfl fun hs w' hG ρ h1 h2 h3 h4 h5=>?_;subst hs;have f297:ρ (.tmp 297)=(.pointer (some ⟨w2.heap.size,9,none⟩)):=h4 12 297 rfl rfl;have c:=(dX.out.below (ag fB.out hG.out)).cell 9 (v:=.int .u8 A.last) rfl;rotate_left
      ·refine vI (s:=p10) (x:=(.bool PK)) rfl rfl rfl fun hs w' hG ρ h1 h2 h3 h4 h5=>?_;subst hs;have f298:ρ (.tmp 298)=(.int .u8 A.last):=h4 13 298 rfl rfl;clear h4 h5;unfold aO;go_simp;exact⟨congrArg Value.bool Ur.out,hG.out⟩
      ·refine dM rfl fun w' hG ρ h1 h2 h3 h4 h5=>?_;have f296:ρ (.tmp 296)=(.bool p10):=h4 11 296 rfl rfl;have f299:ρ (.tmp 299)=(WF p10 (.bool PK)):=h4 14 299 rfl rfl;have e5:=Uy.out;cases p10 <;> simp only[Bool.false_and,Bool.true_and,Bool.true_or,Bool.false_or]at e5 <;> subst e5;all_goals (try dsimp only[WF,WT]at*;clear h4 h5;unfold aO;go_simp;exact⟨rfl,hG.out⟩)
      refine dM rfl fun w' hG ρ h1 h2 h3 h4 h5=>?_;have f300:ρ (.tmp 300)=(.bool lI):=h4 15 300 rfl rfl;rotate_left
      refine dh (s:=lI) (x:=(.pointer (some ⟨w.heap.size,3,none⟩))) rfl rfl rfl fun hs w' hG ρ h1 h2 h3 h4 h5=>?_;subst hs;have f6:ρ (.tmp 6)=.pointer (some ⟨w.heap.size,0,none⟩):=h5 6 rfl;rotate_left
      refine dh (s:=lI) (x:=(.int .i64 at_)) rfl rfl rfl fun hs w' hG ρ h1 h2 h3 h4 h5=>?_;subst hs;have f302:ρ (.tmp 302)=(.pointer (some ⟨w.heap.size,3,none⟩)):=h4 17 302 rfl rfl;have c:=(lV.out.below (ag fB.out hG.out)).cell 3 (v:=.int .i64 at_) rfl;rotate_left
      refine dh (s:=lI) (x:=(.pointer (some ⟨w2.heap.size,4,none⟩))) rfl rfl rfl fun hs w' hG ρ h1 h2 h3 h4 h5=>?_;subst hs;have f11:ρ (.tmp 11)=.pointer (some ⟨w2.heap.size,0,none⟩):=h5 11 rfl;rotate_left
      refine dh (s:=lI) (x:=(.slice (some ⟨gl,0,none⟩) A.locked.length cl)) rfl rfl rfl fun hs w' hG ρ h1 h2 h3 h4 h5=>?_;subst hs;have f304:ρ (.tmp 304)=(.pointer (some ⟨w2.heap.size,4,none⟩)):=h4 19 304 rfl rfl;have c:=(dX.out.below (ag fB.out hG.out)).cell 4 (v:=.slice (some ⟨gl,0,none⟩) A.locked.length cl) rfl;rotate_left
      refine dh (s:=lI) (x:=(.pointer (some ⟨w2.heap.size,5,none⟩))) rfl rfl rfl fun hs w' hG ρ h1 h2 h3 h4 h5=>?_;subst hs;have f11:ρ (.tmp 11)=.pointer (some ⟨w2.heap.size,0,none⟩):=h5 11 rfl;rotate_left
      refine dh (s:=lI) (x:=(.slice pf A.freed.length cf)) rfl rfl rfl fun hs w' hG ρ h1 h2 h3 h4 h5=>?_;subst hs;have f306:ρ (.tmp 306)=(.pointer (some ⟨w2.heap.size,5,none⟩)):=h4 21 306 rfl rfl;have c:=(dX.out.below (ag fB.out hG.out)).cell 5 (v:=.slice pf A.freed.length cf) rfl;rotate_left
      refine dh (s:=lI) (x:=(.int .i64 ((A.freed.length:Nat):Int))) rfl rfl rfl fun hs w' hG ρ h1 h2 h3 h4 h5=>?_;subst hs;have f307:ρ (.tmp 307)=(.slice pf A.freed.length cf):=h4 22 307 rfl rfl;rotate_left
      refine dh (s:=lI) (x:=(.pointer (some ⟨gl,A.freed.length,none⟩))) rfl rfl rfl fun hs w' hG ρ h1 h2 h3 h4 h5=>?_;subst hs;have f305:ρ (.tmp 305)=(.slice (some ⟨gl,0,none⟩) A.locked.length cl):=h4 20 305 rfl rfl;have f308:ρ (.tmp 308)=(.int .i64 ((A.freed.length:Nat):Int)):=h4 23 308 rfl rfl;obtain⟨y1,y2,y3⟩:=JL.out;rotate_left
      refine dh (s:=lI) (x:=(.int .i64 y)) rfl rfl rfl fun hs w' hG ρ h1 h2 h3 h4 h5=>?_;subst hs;have f309:ρ (.tmp 309)=(.pointer (some ⟨gl,A.freed.length,none⟩)):=h4 24 309 rfl rfl;have c:=later (ag fB.out hG.out) OH.out;rotate_left
      ·refine dh (s:=lI) (x:=(.bool Sm)) rfl rfl rfl fun hs w' hG ρ h1 h2 h3 h4 h5=>?_;subst hs;have f303:ρ (.tmp 303)=(.int .i64 at_):=h4 18 303 rfl rfl;have f310:ρ (.tmp 310)=(.int .i64 y):=h4 25 310 rfl rfl;clear h4 h5;unfold aO;go_simp;exact⟨congrArg Value.bool Zp.out,hG.out⟩
      ·refine dM rfl fun w' hG ρ h1 h2 h3 h4 h5=>?_;have f301:ρ (.tmp 301)=(.bool lI):=h4 16 301 rfl rfl;have f311:ρ (.tmp 311)=(WT lI (.bool Sm)):=h4 26 311 rfl rfl;have e5:=ZA.out;cases lI <;> simp only[Bool.false_and,Bool.true_and,Bool.true_or,Bool.false_or]at e5 <;> subst e5;all_goals (try dsimp only[WF,WT]at*;clear h4 h5;unfold aO;go_simp;exact⟨rfl,hG.out⟩)
      refine dM rfl fun w' hG ρ h1 h2 h3 h4 h5=>?_;have f312:ρ (.tmp 312)=(.bool p27):=h4 27 312 rfl rfl;rotate_left
      all_goals (clear h4 h5;unfold aO;go_simp;exact⟨rfl,hG.out⟩)
     case hdone=>
      intro w' hG
      have sW:=hid (ag (ag HB4.out fB.out) hG)
      clear hG e1
      go_wp2_with fail
      all_goals (go_ret;exact⟨by rw[HQ.out,jB.out];try rfl,sW.out⟩)
  ·skip
   have x1:(A.last==8)=false:=by rw[beq_eq_false_iff_ne];omega
   have x2:(A.last==9)=false:=by rw[beq_eq_false_iff_ne];omega
   have jB:Hid (fQ S l.reverse ⟨9,th,tx,at_,v,x,why⟩ A=false):=hid (by unfold fQ;simp at x1 x2;simp[x1,x2])
   clear hl
   have X1:=hid x1
   have X2:=hid x2
   clear x1 x2
   go_wp2_with fail
   go_loopw [19,20] (fun y i wr=>∃ k:Nat,k≤A.stored.length∧i=.int .i64 (k:Int)∧Hid (bU wr w4.heap.size 3 1 y (oh S [] (A.stored.take k)).length (fG (oh S [] (A.stored.take k))))∧Hid (Below w4.heap.size w4 wr)) (fun _ i _=>A.stored.length-(intOf i).toNat)
   case atStart=>exact⟨0,Nat.zero_le _,rfl,hid (bU.nil _ _ _ _),hid (af _)⟩
   case round=>
    obtain⟨k,hk,rfl,QI,fB⟩:=hrel
    have k7:=(dX.out.below fB.out).cell 7 (v:=.slice ps A.stored.length cs) rfl
    obtain⟨py,cy,hyv⟩:=QI.out.shape
    subst hyv
    by_cases hlt:k < A.stored.length
    ·obtain⟨gs,hgs⟩:=nG HR4.out.rs (by omega)
     subst hgs
     have hcy:=later fB.out (qZ HR4.out.rs k hlt)
     have xR:=hid (List.take_succ_eq_append_getElem hlt)
     have Wp:=hid (HST.out A.stored[k] (List.getElem_mem hlt))
     generalize A.stored[k]=y0 at hcy xR Wp
     have j1:decide ((k:Int) < (A.stored.length:Int))=true:=by rw[decide_eq_true_iff];omega
     have j2:(0:Int)≤(k:Int):=by omega
     have j3:IntKind.i64.wrap ((k:Int)+1)=(k:Int)+1:=IntWalk.i64_in _ (by have:=(show A.stored.length≤1048576 from by have h1:=Bo.out.s;rw[List.length_reverse]at h1;have:=HLEN.out;omega);omega)
     have j4:decide (k < A.stored.length)=true:=decide_eq_true hlt
     have j5:(k:Int) < (A.stored.length:Int):=by omega
     have z1:y0.tmod S=y0 % S:=Int.tmod_eq_emod_of_nonneg Wp.out
     have z2:¬ S=0:=by have:=HS.out;omega
     have bf:=hid hlt
     clear hlt hk
     go_wp2_with fail
     refine(BK _ (y0 % S) w4.heap.size _ _ QI.out (by have h0:=DI S (A.stored.take k) [];have h1:=Bo.out.s;rw[List.length_reverse]at h1;have:=HLEN.out;rw[List.length_take]at h0;simp only[List.length_nil]at h0;omega) fB.out.size).mono ?_
     rintro e' w6 ⟨y6,rfl,hb6,Qc⟩
     have U7:=hid Qc
     have UR:=hid (ag fB.out hb6)
     clear hb6 Qc hcy k7
     go_wp2_with fail
     go_roundw
     case rel=>exact⟨k+1,bf.out,by go_num,hid (by rw[xR.out,Ai];exact U7.out),UR⟩
     case measure=>simp[intOf];have:=bf.out;omega
    ·obtain rfl:k=A.stored.length:=by omega
     have j1:decide ((A.stored.length:Int) < (A.stored.length:Int))=false:=by rw[decide_eq_false_iff_not];omega
     rw[List.take_length]
     obtain⟨N,hN⟩:∃ N,N=(oh S [] A.stored).length:=⟨_,rfl⟩
     rw[←hN]
     have x1:=X1.out
     have x2:=X2.out
     have k9:=(dX.out.below fB.out).cell 9 (v:=.int .u8 A.last) rfl
     go_wp2_with fail
     go_quiet (fail)
     go_wp2_with fail
     all_goals (go_ret;exact⟨by rw[HQ.out,jB.out];try rfl,ai (ag HB4.out fB.out) _⟩)
 ·as_aux_lemma=>
  by_cases hl:A.last=12
  ·have x1:(A.last==12)=true:=by simpa using hl
   have HF:Hid (fQ S l.reverse ⟨13,th,tx,at_,v,x,why⟩ A=A.read.any (qp l.reverse A.rv)):=hid (by unfold fQ;simp[hl])
   have X1:=hid x1
   clear hl x1
   go_wp2_with fail
   go_loopw [21] (fun i wr=>∃ k:Nat,k≤A.read.length∧i=.int .i64 (k:Int)∧Hid ((A.read.take k).any (qp l.reverse A.rv)=false)∧Hid (Below w4.heap.size w4 wr)) (fun i _=>A.read.length-(intOf i).toNat)
   case atStart=>exact⟨0,Nat.zero_le _,rfl,hid rfl,hid (af _)⟩
   case round=>
    obtain⟨k,hk,rfl,WU,fB⟩:=hrel
    have k3:=(dX.out.below fB.out).cell 3 (v:=.slice pr A.read.length cr) rfl
    have k9:=(dX.out.below fB.out).cell 9 (v:=.int .u8 A.last) rfl
    have x1:=X1.out
    by_cases hlt:k < A.read.length
    ·obtain⟨gr,hgr⟩:=nG HR4.out.rr (by omega)
     subst hgr
     have OH:=hid (qZ HR4.out.rr k hlt)
     have xR:=hid (List.take_succ_eq_append_getElem hlt)
     generalize A.read[k]=y at OH xR
     have j1:decide ((k:Int) < (A.read.length:Int))=true:=by rw[decide_eq_true_iff];omega
     have j2:(0:Int)≤(k:Int):=by omega
     have j3:IntKind.i64.wrap ((k:Int)+1)=(k:Int)+1:=IntWalk.i64_in _ (by have:=(show A.read.length≤1048576 from by have h1:=Bo.out.r;rw[List.length_reverse]at h1;have:=HLEN.out;omega);omega)
     have j4:decide (k < A.read.length)=true:=decide_eq_true hlt
     have j5:(k:Int) < (A.read.length:Int):=by omega
     have JJ:=hid (And.intro j2 (And.intro j4 j5))
     have bf:=hid hlt
     clear hk hlt
     go_wp2_with fail
     clear x1
     obtain⟨q7,hq7⟩:∃ q:Bool,(decide ((dR l.reverse y) < 0))=q:=⟨_,rfl⟩
     have Zm:=hid hq7
     obtain⟨PI,Gx⟩:∃ q:Bool,(decide (A.rv < (fM l.reverse y)))=q:=⟨_,rfl⟩
     have Un:=hid Gx
     obtain⟨Q8,GI⟩:∃ p:Bool,p=(q7&&PI):=⟨_,rfl⟩
     have QJ:=hid GI
     have jB:Hid (qp l.reverse A.rv y=Q8):=hid (by unfold qp;rw[GI,←hq7,←Gx])
     clear hq7 Gx GI
     apply aZ (fun qq=>([(.slice a n cap),(.pointer (some ⟨w2.heap.size,3,none⟩)),(.slice (some ⟨gr,0,none⟩) A.read.length cr),(.int .i64 (k:Int)),(.pointer (some ⟨gr,k,none⟩)),(.int .i64 y),(.int .i64 (dR l.reverse y)),(.bool q7),(.bool q7),(WT q7 (.slice a n cap)),(WT q7 (.pointer (some ⟨w2.heap.size,3,none⟩))),(WT q7 (.slice (some ⟨gr,0,none⟩) A.read.length cr)),(WT q7 (.int .i64 (k:Int))),(WT q7 (.pointer (some ⟨gr,k,none⟩))),(WT q7 (.int .i64 y)),(WT q7 (.int .i64 (fM l.reverse y))),(WT q7 (.pointer (some ⟨w2.heap.size,1,none⟩))),(WT q7 (.int .i64 A.rv)),(WT q7 (.bool PI)),(.bool Q8)]:List Value).getD qq undef) (fun w'=>Below wr.heap.size wr w')
     focus (simp[ay,aB,Act.put,List.getD];rfl)
     case hm=>kernel_rfl
     case hd=>kernel_rfl
     case hb=>kernel_rfl
     case iR=>kernel_rfl
     case hsz=>kernel_rfl
     case h0=>exact aj (af _)
     case hstep=>
      refine⟨?_,?_,?_,?_,?_,?_,?_,?_,?_,?_,?_,?_,?_,?_,?_,?_,?_,?_,?_,?_,trivial⟩
      refine dM rfl fun w' hG ρ h1 h2 h3 h4 h5=>?_;have f0:ρ (.tmp 0)=.slice a n cap:=h5 0 rfl;rotate_left
      refine dM rfl fun w' hG ρ h1 h2 h3 h4 h5=>?_;have f11:ρ (.tmp 11)=.pointer (some ⟨w2.heap.size,0,none⟩):=h5 11 rfl;rotate_left
      refine dM rfl fun w' hG ρ h1 h2 h3 h4 h5=>?_;have abt:ρ (.tmp 353)=(.pointer (some ⟨w2.heap.size,3,none⟩)):=h4 1 353 rfl rfl;have c:=(dX.out.below (ag fB.out hG.out)).cell 3 (v:=.slice (some ⟨gr,0,none⟩) A.read.length cr) rfl;rotate_left
      refine dM rfl fun w' hG ρ h1 h2 h3 h4 h5=>?_;have f21:ρ (.tmp 21)=.int .i64 (k:Int):=h5 21 rfl;rotate_left
      refine dM rfl fun w' hG ρ h1 h2 h3 h4 h5=>?_;have abr:ρ (.tmp 354)=(.slice (some ⟨gr,0,none⟩) A.read.length cr):=h4 2 354 rfl rfl;have abq:ρ (.tmp 355)=(.int .i64 (k:Int)):=h4 3 355 rfl rfl;obtain⟨y1,y2,y3⟩:=JJ.out;rotate_left
      refine dM rfl fun w' hG ρ h1 h2 h3 h4 h5=>?_;have abp:ρ (.tmp 356)=(.pointer (some ⟨gr,k,none⟩)):=h4 4 356 rfl rfl;have c:=later (ag fB.out hG.out) OH.out;rotate_left
      ·refine dM rfl fun w' hG ρ h1 h2 h3 h4 h5=>?_;have abu:ρ (.tmp 352)=(.slice a n cap):=h4 0 352 rfl rfl;have abo:ρ (.tmp 357)=(.int .i64 y):=h4 5 357 rfl rfl;clear h4 h5;unfold aO;go_simp;unfold xE;refine(HOW.out _ (ag (ag HB4.out fB.out) hG.out) y).mono ?_;rintro e' w1 ⟨rfl,hb⟩;exact⟨_,rfl,rfl,ag hG.out hb⟩
      ·refine dM rfl fun w' hG ρ h1 h2 h3 h4 h5=>?_;have abn:ρ (.tmp 358)=(.int .i64 (dR l.reverse y)):=h4 6 358 rfl rfl;clear h4 h5;unfold aO;go_simp;exact⟨congrArg Value.bool Zm.out,hG.out⟩
      refine dM rfl fun w' hG ρ h1 h2 h3 h4 h5=>?_;have abm:ρ (.tmp 359)=(.bool q7):=h4 7 359 rfl rfl;rotate_left
      refine dh (s:=q7) (x:=(.slice a n cap)) rfl rfl rfl fun hs w' hG ρ h1 h2 h3 h4 h5=>?_;subst hs;have f0:ρ (.tmp 0)=.slice a n cap:=h5 0 rfl;rotate_left
      refine dh (s:=q7) (x:=(.pointer (some ⟨w2.heap.size,3,none⟩))) rfl rfl rfl fun hs w' hG ρ h1 h2 h3 h4 h5=>?_;subst hs;have f11:ρ (.tmp 11)=.pointer (some ⟨w2.heap.size,0,none⟩):=h5 11 rfl;rotate_left
      refine dh (s:=q7) (x:=(.slice (some ⟨gr,0,none⟩) A.read.length cr)) rfl rfl rfl fun hs w' hG ρ h1 h2 h3 h4 h5=>?_;subst hs;have abj:ρ (.tmp 362)=(.pointer (some ⟨w2.heap.size,3,none⟩)):=h4 10 362 rfl rfl;have c:=(dX.out.below (ag fB.out hG.out)).cell 3 (v:=.slice (some ⟨gr,0,none⟩) A.read.length cr) rfl;rotate_left
      refine dh (s:=q7) (x:=(.int .i64 (k:Int))) rfl rfl rfl fun hs w' hG ρ h1 h2 h3 h4 h5=>?_;subst hs;have f21:ρ (.tmp 21)=.int .i64 (k:Int):=h5 21 rfl;rotate_left
      refine dh (s:=q7) (x:=(.pointer (some ⟨gr,k,none⟩))) rfl rfl rfl fun hs w' hG ρ h1 h2 h3 h4 h5=>?_;subst hs;have abh:ρ (.tmp 363)=(.slice (some ⟨gr,0,none⟩) A.read.length cr):=h4 11 363 rfl rfl;have abg:ρ (.tmp 364)=(.int .i64 (k:Int)):=h4 12 364 rfl rfl;obtain⟨y1,y2,y3⟩:=JJ.out;rotate_left
      refine dh (s:=q7) (x:=(.int .i64 y)) rfl rfl rfl fun hs w' hG ρ h1 h2 h3 h4 h5=>?_;subst hs;have abf:ρ (.tmp 365)=(.pointer (some ⟨gr,k,none⟩)):=h4 13 365 rfl rfl;have c:=later (ag fB.out hG.out) OH.out;rotate_left
      ·refine dh (s:=q7) (x:=(.int .i64 (fM l.reverse y))) rfl rfl rfl fun hs w' hG ρ h1 h2 h3 h4 h5=>?_;subst hs;have abk:ρ (.tmp 361)=(.slice a n cap):=h4 9 361 rfl rfl;have abe:ρ (.tmp 366)=(.int .i64 y):=h4 14 366 rfl rfl;clear h4 h5;unfold aO;go_simp;unfold xE;refine(Ih.out _ (ag (ag HB4.out fB.out) hG.out) y).mono ?_;rintro e' w1 ⟨rfl,hb⟩;exact⟨_,rfl,rfl,ag hG.out hb⟩
      refine dh (s:=q7) (x:=(.pointer (some ⟨w2.heap.size,1,none⟩))) rfl rfl rfl fun hs w' hG ρ h1 h2 h3 h4 h5=>?_;subst hs;have f11:ρ (.tmp 11)=.pointer (some ⟨w2.heap.size,0,none⟩):=h5 11 rfl;rotate_left
      refine dh (s:=q7) (x:=(.int .i64 A.rv)) rfl rfl rfl fun hs w' hG ρ h1 h2 h3 h4 h5=>?_;subst hs;have abb:ρ (.tmp 368)=(.pointer (some ⟨w2.heap.size,1,none⟩)):=h4 16 368 rfl rfl;have c:=(dX.out.below (ag fB.out hG.out)).cell 1 (v:=.int .i64 A.rv) rfl;rotate_left
      ·refine dh (s:=q7) (x:=(.bool PI)) rfl rfl rfl fun hs w' hG ρ h1 h2 h3 h4 h5=>?_;subst hs;have abd:ρ (.tmp 367)=(.int .i64 (fM l.reverse y)):=h4 15 367 rfl rfl;have aba:ρ (.tmp 369)=(.int .i64 A.rv):=h4 17 369 rfl rfl;clear h4 h5;unfold aO;go_simp;exact⟨congrArg Value.bool Un.out,hG.out⟩
      ·refine dM rfl fun w' hG ρ h1 h2 h3 h4 h5=>?_;have abl:ρ (.tmp 360)=(.bool q7):=h4 8 360 rfl rfl;have aa9:ρ (.tmp 370)=(WT q7 (.bool PI)):=h4 18 370 rfl rfl;have e5:=QJ.out;cases q7 <;> simp only[Bool.false_and,Bool.true_and,Bool.true_or,Bool.false_or]at e5 <;> subst e5;all_goals (try dsimp only[WF,WT]at*;clear h4 h5;unfold aO;go_simp;exact⟨rfl,hG.out⟩)
      all_goals (clear h4 h5;unfold aO;go_simp;exact⟨rfl,hG.out⟩)
     case hdone=>
      intro w' hG
      have sW:=hid (ag fB.out hG)
      clear hG e1 k9 k3 QJ
      cases Q8
      ·go_wp2_with fail
       all_goals go_roundw
       case rel=>exact⟨k+1,bf.out,by go_num,hid (by rw[xR.out,List.any_append,WU.out];simp[jB.out]),sW⟩
       case measure=>simp[intOf];have:=bf.out;omega
      ·go_wp2_with fail
       all_goals (go_ret;exact⟨by rw[HQ.out,HF.out];have:A.read.any (qp l.reverse A.rv)=true:=(by rw[←List.take_append_drop (k+1) A.read,List.any_append,xR.out,List.any_append];simp[jB.out]);rw[this];try rfl,ag HB4.out sW.out⟩)
    ·have j1:decide ((k:Int) < (A.read.length:Int))=false:=by rw[decide_eq_false_iff_not];omega
     have ZW:Hid (A.read.any (qp l.reverse A.rv)=false):=hid (by rw[←WU.out,List.take_of_length_le (by omega)])
     go_wp2_with fail
     go_ret
     exact⟨by rw[HQ.out,HF.out,ZW.out];try rfl,ag HB4.out fB.out⟩
  ·have x1:(A.last==12)=false:=by simpa using hl
   have HF:Hid (fQ S l.reverse ⟨13,th,tx,at_,v,x,why⟩ A=false):=hid (by unfold fQ;simp[hl])
   have X1:=hid x1
   clear hl x1
   go_wp2_with fail
   go_loopw [21] (fun i wr=>i=.int .i64 0∧w4=wr) (fun _ _=>0)
   case atStart=>exact⟨rfl,rfl⟩
   case round=>
    obtain⟨rfl,rfl⟩:=hrel
    have k3:=dX.out.cell 3 (v:=.slice pr A.read.length cr) rfl
    have k9:=dX.out.cell 9 (v:=.int .u8 A.last) rfl
    have x1:=X1.out
    obtain⟨N,hN⟩:∃ N,N=A.read.length:=⟨_,rfl⟩
    rw[←hN]at k3
    clear hN
    by_cases hN:(0:Int) < (N:Int)
    ·have j0:=decide_eq_true hN
     go_wp2_with fail
     all_goals (go_ret;exact⟨by rw[HQ.out,HF.out];try rfl,HB4.out⟩)
    ·have j0:=decide_eq_false hN
     go_wp2_with fail
     all_goals (go_ret;exact⟨by rw[HQ.out,HF.out];try rfl,HB4.out⟩)
 ·as_aux_lemma=>
  go_wp2_with fail
  obtain⟨nw,hnw⟩:∃ q:Bool,(decide (A.rv < (fM l.reverse at_)))=q:=⟨_,rfl⟩
  have WE:=hid hnw
  clear hnw
  apply aZ (fun qq=>([(.slice a n cap),(.pointer (some ⟨w.heap.size,3,none⟩)),(.int .i64 at_),(.int .i64 (fM l.reverse at_)),(.pointer (some ⟨w2.heap.size,1,none⟩)),(.int .i64 A.rv),(.bool nw),(.bool nw)]:List Value).getD qq undef) (fun w'=>Below w4.heap.size w4 w')
  focus (simp[ay,aB,Act.put,List.getD];rfl)
  case hm=>kernel_rfl
  case hd=>kernel_rfl
  case hb=>kernel_rfl
  case iR=>kernel_rfl
  case hsz=>kernel_rfl
  case h0=>exact aj (af _)
  case hstep=>
   refine⟨?_,?_,?_,?_,?_,?_,?_,?_,trivial⟩
   refine dM rfl fun w' hG ρ h1 h2 h3 h4 h5=>?_;have f0:ρ (.tmp 0)=.slice a n cap:=h5 0 rfl;rotate_left
   refine dM rfl fun w' hG ρ h1 h2 h3 h4 h5=>?_;have f6:ρ (.tmp 6)=.pointer (some ⟨w.heap.size,0,none⟩):=h5 6 rfl;rotate_left
   refine dM rfl fun w' hG ρ h1 h2 h3 h4 h5=>?_;have aa7:ρ (.tmp 373)=(.pointer (some ⟨w.heap.size,3,none⟩)):=h4 1 373 rfl rfl;have c:=(lV.out.below hG.out).cell 3 (v:=.int .i64 at_) rfl;rotate_left
   ·refine dM rfl fun w' hG ρ h1 h2 h3 h4 h5=>?_;have aa8:ρ (.tmp 372)=(.slice a n cap):=h4 0 372 rfl rfl;have aa6:ρ (.tmp 374)=(.int .i64 at_):=h4 2 374 rfl rfl;clear h4 h5;unfold aO;go_simp;unfold xE;refine(Ih.out _ (ag HB4.out hG.out) at_).mono ?_;rintro e' w1 ⟨rfl,hb⟩;exact⟨_,rfl,rfl,ag hG.out hb⟩
   refine dM rfl fun w' hG ρ h1 h2 h3 h4 h5=>?_;have f11:ρ (.tmp 11)=.pointer (some ⟨w2.heap.size,0,none⟩):=h5 11 rfl;rotate_left
   refine dM rfl fun w' hG ρ h1 h2 h3 h4 h5=>?_;have aa4:ρ (.tmp 376)=(.pointer (some ⟨w2.heap.size,1,none⟩)):=h4 4 376 rfl rfl;have c:=(dX.out.below hG.out).cell 1 (v:=.int .i64 A.rv) rfl;rotate_left
   ·refine dM rfl fun w' hG ρ h1 h2 h3 h4 h5=>?_;have aa5:ρ (.tmp 375)=(.int .i64 (fM l.reverse at_)):=h4 3 375 rfl rfl;have aa3:ρ (.tmp 377)=(.int .i64 A.rv):=h4 5 377 rfl rfl;clear h4 h5;unfold aO;go_simp;exact⟨congrArg Value.bool WE.out,hG.out⟩
   refine dM rfl fun w' hG ρ h1 h2 h3 h4 h5=>?_;have aa2:ρ (.tmp 378)=(.bool nw):=h4 6 378 rfl rfl;rotate_left
   all_goals (clear h4 h5;unfold aO;go_simp;exact⟨rfl,hG.out⟩)
  case hdone=>
   intro w5 hG
   have EX:=hid (lV.out.below hG)
   have EU:=hid (dX.out.below hG)
   have qN:=hid (ag HB4.out hG)
   have jB:=hid (HR4.out.below hG)
   clear hG e1 lV dX HB4 HR4
   have lV:=EX
   have dX:=EU
   have HB4:=qN
   have HR4:=jB
   clear EX EU qN jB
   have e6:=lV.out.cell 6 (v:=.int .u8 why) rfl
   rcases Ve (HWY.out (by simp))with rfl | rfl | rfl | rfl | rfl | rfl
   ·skip
    have C9:Hid (fQ S l.reverse ⟨10,th,tx,at_,v,x,1⟩ A=eH l.reverse ⟨10,th,tx,at_,v,x,1⟩ A):=hid (by unfold fQ;simp)
    have jB:Hid (eH l.reverse ⟨10,th,tx,at_,v,x,1⟩ A=(rd&&ot)):=hid (by unfold eH jG o8;(try simp only[←xG.out,←uG.out,←Dt.out,←WE.out]);rw[Bool.eq_iff_iff];simp;all_goals (try (intros;omega)))
    cases rd <;> (go_wp2_with fail;all_goals (go_ret;exact⟨by rw[HQ.out,C9.out,jB.out];try rfl,HB4.out⟩))
   ·skip
    have C9:Hid (fQ S l.reverse ⟨10,th,tx,at_,v,x,2⟩ A=eH l.reverse ⟨10,th,tx,at_,v,x,2⟩ A):=hid (by unfold fQ;simp)
    have jB:Hid (eH l.reverse ⟨10,th,tx,at_,v,x,2⟩ A=(rd&&decide (dR l.reverse at_ < 0)&&nw)):=hid (by unfold eH jG;(try simp only[←xG.out,←uG.out,←Dt.out,←WE.out]);rw[Bool.eq_iff_iff];simp;all_goals (try (intros;omega)))
    rcases Ya (dR l.reverse at_)with⟨jo,jo2⟩ | ⟨jo,jo2⟩ <;> cases rd <;> (go_wp2_with fail;all_goals (go_ret;exact⟨by rw[HQ.out,C9.out,jB.out,jo2];try rfl,HB4.out⟩))
   ·skip
    have C9:Hid (fQ S l.reverse ⟨10,th,tx,at_,v,x,3⟩ A=eH l.reverse ⟨10,th,tx,at_,v,x,3⟩ A):=hid (by unfold fQ;simp)
    obtain⟨M,q,NJ⟩:∃ M q,A.L=M++[q]:=by rcases List.eq_nil_or_concat A.L with h | ⟨M,q,h⟩;exact absurd h LD.out.1;exact⟨M,q,by rw[h,List.concat_eq_append]⟩
    obtain⟨gL,rfl⟩:=nG HR4.out.rL (by rw[NJ];simp)
    have QM:=hid (wF A M q NJ)
    have ET:Hid (∀ j u,(qM q)[j]? =some u→w5.cell? ⟨gL,M.length*7+j,none⟩=some u):=hid (fun j u hu=>by have h:=HR4.out.rL;rw[NJ]at h;exact yL h j u hu)
    have V4:A.L.length=M.length+1:=by rw[NJ];simp
    have LC:Hid (M.length+1≤1048576):=hid (by have:=(show A.L.length≤1048576 from by have h1:=Bo.out.L;rw[List.length_reverse]at h1;have:=HLEN.out;omega);omega)
    have mV:=hid V4
    clear NJ V4
    obtain⟨qk,JB,Jz,wu,qv,qx,wo⟩:=q
    have r0:w5.cell? ⟨gL,M.length*7,none⟩=some (.int .u8 qk):=ET.out 0 _ rfl
    have r1:w5.cell? ⟨gL,M.length*7+1,none⟩=some (.int .i64 JB):=ET.out 1 _ rfl
    have r2:w5.cell? ⟨gL,M.length*7+2,none⟩=some (.int .i64 Jz):=ET.out 2 _ rfl
    have r3:w5.cell? ⟨gL,M.length*7+3,none⟩=some (.int .i64 wu):=ET.out 3 _ rfl
    have r4:w5.cell? ⟨gL,M.length*7+4,none⟩=some (.int .i64 qv):=ET.out 4 _ rfl
    have r5:w5.cell? ⟨gL,M.length*7+5,none⟩=some (.int .i64 qx):=ET.out 5 _ rfl
    have r6:w5.cell? ⟨gL,M.length*7+6,none⟩=some (.int .u8 wo):=ET.out 6 _ rfl
    have k0:=dX.out.cell 0 (v:=.slice (some ⟨gL,0,none⟩) A.L.length cL) rfl
    obtain⟨N,hN⟩:∃ N,N=A.L.length:=⟨_,rfl⟩
    have hN1:N=M.length+1:=by rw[hN];exact mV.out
    rw[←hN]at k0
    have i1:IntKind.i64.wrap ((N:Int)-1)=(M.length:Int):=by rw[IntWalk.i64_in _ (by have:=LC.out;omega)];omega
    have i2:(0:Int)≤(M.length:Int):=by omega
    have i3:(M.length:Int) < (N:Int):=by omega
    have i4:decide (M.length < N)=true:=decide_eq_true (by omega)
    have i5:(M.length:Int).toNat=M.length:=by omega
    clear hN hN1
    go_wp2_with fail
    clear k0 e6 i1 i2 i3 i4 i5 r0 r1 r2 r3 r4 r5 r6
    have QO:=hid (aA.new w5 #[.int .u8 qk,.int .i64 JB,.int .i64 Jz,.int .i64 wu,.int .i64 qv,.int .i64 qx,.int .u8 wo] 49)
    have EX:=hid (lV.out.alloc (.cells #[.int .u8 qk,.int .i64 JB,.int .i64 Jz,.int .i64 wu,.int .i64 qv,.int .i64 qx,.int .u8 wo] 49))
    have EU:=hid (dX.out.alloc (.cells #[.int .u8 qk,.int .i64 JB,.int .i64 Jz,.int .i64 wu,.int .i64 qv,.int .i64 qx,.int .u8 wo] 49))
    have qN:=hid (ah HB4.out (.cells #[.int .u8 qk,.int .i64 JB,.int .i64 Jz,.int .i64 wu,.int .i64 qv,.int .i64 qx,.int .u8 wo] 49))
    clear lV dX HB4 HR4 ET
    have lV:=EX
    have dX:=EU
    have HB4:=qN
    clear EX EU qN
    obtain⟨lb,hlb⟩:∃ lb,lb=w5.heap.size:=⟨_,rfl⟩
    obtain⟨w6,hw5⟩:∃ wz,wz=w5.alloc (.cells #[.int .u8 qk,.int .i64 JB,.int .i64 Jz,.int .i64 wu,.int .i64 qv,.int .i64 qx,.int .u8 wo] 49):=⟨_,rfl⟩
    rw[←hlb,←hw5]at QO
    rw[←hw5]at lV dX HB4
    rw[←hlb,←hw5]
    clear hlb hw5
    have hlk:=QM.out
    by_cases l2:A.last=2
    ·have x1:(A.last==2)=true:=by simpa using l2
     by_cases ha:wu=at_
     ·have ja:(wu==at_)=true:=by simpa using ha
      by_cases hw:0≤dR l.reverse at_
      ·have jo:=decide_eq_true hw
       have jB:Hid (eH l.reverse ⟨10,th,tx,at_,v,x,3⟩ A=true):=hid (by unfold eH;simp[hlk,ha,hw,l2])
       have k9:=dX.out.cell 9 (v:=.int .u8 A.last) rfl
       have e3:=lV.out.cell 3 (v:=.int .i64 at_) rfl
       have y3:=QO.out.cell 3 (v:=.int .i64 wu) rfl
       clear hlk ha hw l2
       skip
       go_quiet (fail)
       go_wp2_with fail
       all_goals (go_ret;exact⟨by rw[HQ.out,C9.out,jB.out];try rfl,ai HB4.out _⟩)
      ·have jo:=decide_eq_false hw
       obtain⟨Su,Tc⟩:∃ q:Bool,(((fM l.reverse at_) !=qv))=q:=⟨_,rfl⟩
       have Zt:=hid Tc
       obtain⟨Xt,Tn⟩:∃ p:Bool,p=(false||Su):=⟨_,rfl⟩
       have ZC:=hid Tn
       obtain⟨PO,GH⟩:∃ p:Bool,p=(true&&Xt):=⟨_,rfl⟩
       have Uu:=hid GH
       have jB:Hid (eH l.reverse ⟨10,th,tx,at_,v,x,3⟩ A=PO):=hid (by unfold eH;rw[GH,Tn];simp only[←Tc];rw[Bool.eq_iff_iff];simp[l2,hlk,ha,hw])
       have JA:=hid ja
       have JO:=hid jo
       have X1:=hid x1
       clear hw hlk ha l2 ja jo x1 Tn GH Tc
       apply aZ (fun qq=>([(.pointer (some ⟨w2.heap.size,9,none⟩)),(.int .u8 A.last),(.bool true),(.bool true),(WT true (.pointer (some ⟨lb,3,none⟩))),(WT true (.int .i64 wu)),(WT true (.pointer (some ⟨w.heap.size,3,none⟩))),(WT true (.int .i64 at_)),(WT true (.bool true)),(.bool true),(.bool true),(WT true (.int .i64 (dR l.reverse at_))),(WT true (.bool false)),(WT true (.bool false)),(WF false (.slice a n cap)),(WF false (.pointer (some ⟨w.heap.size,3,none⟩))),(WF false (.int .i64 at_)),(WF false (.int .i64 (fM l.reverse at_))),(WF false (.pointer (some ⟨lb,4,none⟩))),(WF false (.int .i64 qv)),(WF false (.bool Su)),(WT true (.bool Xt)),(.bool PO),(.bool PO)]:List Value).getD qq undef) (fun w'=>Below w6.heap.size w6 w')
       focus (simp[ay,aB,Act.put,List.getD];rfl)
       case hm=>kernel_rfl
       case hd=>kernel_rfl
       case hb=>kernel_rfl
       case iR=>kernel_rfl
       case hsz=>kernel_rfl
       case h0=>exact aj (af _)
       case hstep=>
        refine⟨?_,?_,?_,?_,?_,?_,?_,?_,?_,?_,?_,?_,?_,?_,?_,?_,?_,?_,?_,?_,?_,?_,?_,?_,trivial⟩
        refine dM rfl fun w' hG ρ h1 h2 h3 h4 h5=>?_;have f11:ρ (.tmp 11)=.pointer (some ⟨w2.heap.size,0,none⟩):=h5 11 rfl;rotate_left
        refine dM rfl fun w' hG ρ h1 h2 h3 h4 h5=>?_;have aa1:ρ (.tmp 407)=(.pointer (some ⟨w2.heap.size,9,none⟩)):=h4 0 407 rfl rfl;have c:=(dX.out.below hG.out).cell 9 (v:=.int .u8 A.last) rfl;rotate_left
        refine dM rfl fun w' hG ρ h1 h2 h3 h4 h5=>?_;have aa0:ρ (.tmp 408)=(.int .u8 A.last):=h4 1 408 rfl rfl;have y:=X1.out;rotate_left
        refine dM rfl fun w' hG ρ h1 h2 h3 h4 h5=>?_;have aaZ:ρ (.tmp 409)=(.bool true):=h4 2 409 rfl rfl;rotate_left
        refine dh (s:=true) (x:=(.pointer (some ⟨lb,3,none⟩))) rfl rfl rfl fun _ w' hG ρ h1 h2 h3 h4 h5=>?_;have f23:ρ (.tmp 23)=.pointer (some ⟨lb,0,none⟩):=h5 23 rfl;rotate_left
        refine dh (s:=true) (x:=(.int .i64 wu)) rfl rfl rfl fun _ w' hG ρ h1 h2 h3 h4 h5=>?_;have aaX:ρ (.tmp 411)=(.pointer (some ⟨lb,3,none⟩)):=h4 4 411 rfl rfl;have c:=(QO.out.below hG.out).cell 3 (v:=.int .i64 wu) rfl;rotate_left
        refine dh (s:=true) (x:=(.pointer (some ⟨w.heap.size,3,none⟩))) rfl rfl rfl fun _ w' hG ρ h1 h2 h3 h4 h5=>?_;have f6:ρ (.tmp 6)=.pointer (some ⟨w.heap.size,0,none⟩):=h5 6 rfl;rotate_left
        refine dh (s:=true) (x:=(.int .i64 at_)) rfl rfl rfl fun _ w' hG ρ h1 h2 h3 h4 h5=>?_;have aaV:ρ (.tmp 413)=(.pointer (some ⟨w.heap.size,3,none⟩)):=h4 6 413 rfl rfl;have c:=(lV.out.below hG.out).cell 3 (v:=.int .i64 at_) rfl;rotate_left
        refine dh (s:=true) (x:=(.bool true)) rfl rfl rfl fun _ w' hG ρ h1 h2 h3 h4 h5=>?_;have aaW:ρ (.tmp 412)=(.int .i64 wu):=h4 5 412 rfl rfl;have aaU:ρ (.tmp 414)=(.int .i64 at_):=h4 7 414 rfl rfl;have y:=JA.out;rotate_left
        refine dM rfl fun w' hG ρ h1 h2 h3 h4 h5=>?_;have aaY:ρ (.tmp 410)=(.bool true):=h4 3 410 rfl rfl;have aaT:ρ (.tmp 415)=(WT true (.bool true)):=h4 8 415 rfl rfl;try dsimp only[WF,WT]at*;rotate_left
        refine dM rfl fun w' hG ρ h1 h2 h3 h4 h5=>?_;have aaS:ρ (.tmp 416)=(.bool true):=h4 9 416 rfl rfl;rotate_left
        refine dh (s:=true) (x:=(.int .i64 (dR l.reverse at_))) rfl rfl rfl fun _ w' hG ρ h1 h2 h3 h4 h5=>?_;have f14:ρ (.tmp 14)=.int .i64 (dR l.reverse at_):=h5 14 rfl;rotate_left
        refine dh (s:=true) (x:=(.bool false)) rfl rfl rfl fun _ w' hG ρ h1 h2 h3 h4 h5=>?_;have aaQ:ρ (.tmp 418)=(.int .i64 (dR l.reverse at_)):=h4 11 418 rfl rfl;have y:=JO.out;rotate_left
        refine dh (s:=true) (x:=(.bool false)) rfl rfl rfl fun _ w' hG ρ h1 h2 h3 h4 h5=>?_;have aaP:ρ (.tmp 419)=(.bool false):=h4 12 419 rfl rfl;rotate_left
        refine vI (s:=false) (x:=(.slice a n cap)) rfl rfl rfl fun _ w' hG ρ h1 h2 h3 h4 h5=>?_;have f0:ρ (.tmp 0)=.slice a n cap:=h5 0 rfl;rotate_left
        refine vI (s:=false) (x:=(.pointer (some ⟨w.heap.size,3,none⟩))) rfl rfl rfl fun _ w' hG ρ h1 h2 h3 h4 h5=>?_;have f6:ρ (.tmp 6)=.pointer (some ⟨w.heap.size,0,none⟩):=h5 6 rfl;rotate_left
        refine vI (s:=false) (x:=(.int .i64 at_)) rfl rfl rfl fun _ w' hG ρ h1 h2 h3 h4 h5=>?_;have aaM:ρ (.tmp 422)=(.pointer (some ⟨w.heap.size,3,none⟩)):=h4 15 422 rfl rfl;have c:=(lV.out.below hG.out).cell 3 (v:=.int .i64 at_) rfl;rotate_left
        ·refine vI (s:=false) (x:=(.int .i64 (fM l.reverse at_))) rfl rfl rfl fun _ w' hG ρ h1 h2 h3 h4 h5=>?_;have aaN:ρ (.tmp 421)=(.slice a n cap):=h4 14 421 rfl rfl;have aaL:ρ (.tmp 423)=(.int .i64 at_):=h4 16 423 rfl rfl;clear h4 h5;unfold aO;go_simp;unfold xE;refine(Ih.out _ (ag HB4.out hG.out) at_).mono ?_;rintro e' w1 ⟨rfl,hb⟩;exact⟨_,rfl,rfl,ag hG.out hb⟩
        refine vI (s:=false) (x:=(.pointer (some ⟨lb,4,none⟩))) rfl rfl rfl fun _ w' hG ρ h1 h2 h3 h4 h5=>?_;have f23:ρ (.tmp 23)=.pointer (some ⟨lb,0,none⟩):=h5 23 rfl;rotate_left
        refine vI (s:=false) (x:=(.int .i64 qv)) rfl rfl rfl fun _ w' hG ρ h1 h2 h3 h4 h5=>?_;have aaJ:ρ (.tmp 425)=(.pointer (some ⟨lb,4,none⟩)):=h4 18 425 rfl rfl;have c:=(QO.out.below hG.out).cell 4 (v:=.int .i64 qv) rfl;rotate_left
        ·refine vI (s:=false) (x:=(.bool Su)) rfl rfl rfl fun _ w' hG ρ h1 h2 h3 h4 h5=>?_;have aaK:ρ (.tmp 424)=(.int .i64 (fM l.reverse at_)):=h4 17 424 rfl rfl;have aaI:ρ (.tmp 426)=(.int .i64 qv):=h4 19 426 rfl rfl;clear h4 h5;unfold aO;go_simp;exact⟨congrArg Value.bool Zt.out,hG.out⟩
        ·refine dh (s:=true) (x:=(.bool Xt)) rfl rfl rfl fun _ w' hG ρ h1 h2 h3 h4 h5=>?_;have aaO:ρ (.tmp 420)=(.bool false):=h4 13 420 rfl rfl;have aaH:ρ (.tmp 427)=(WF false (.bool Su)):=h4 20 427 rfl rfl;have e5:=ZC.out;simp only[Bool.false_and,Bool.true_and,Bool.true_or,Bool.false_or]at e5;subst e5;all_goals (try dsimp only[WF,WT]at*;clear h4 h5;unfold aO;go_simp;exact⟨rfl,hG.out⟩)
        ·refine dM rfl fun w' hG ρ h1 h2 h3 h4 h5=>?_;have aaR:ρ (.tmp 417)=(.bool true):=h4 10 417 rfl rfl;have aaG:ρ (.tmp 428)=(WT true (.bool Xt)):=h4 21 428 rfl rfl;have e5:=Uu.out;simp only[Bool.false_and,Bool.true_and,Bool.true_or,Bool.false_or]at e5;subst e5;all_goals (try dsimp only[WF,WT]at*;clear h4 h5;unfold aO;go_simp;exact⟨rfl,hG.out⟩)
        refine dM rfl fun w' hG ρ h1 h2 h3 h4 h5=>?_;have aaF:ρ (.tmp 429)=(.bool PO):=h4 22 429 rfl rfl;rotate_left
        all_goals (clear h4 h5;unfold aO;go_simp;exact⟨rfl,hG.out⟩)
       case hdone=>
        intro w' hG
        have sW:=hid (ag HB4.out hG)
        clear hG
        go_wp2_with fail
        all_goals (go_ret;exact⟨by rw[HQ.out,C9.out,jB.out];try rfl,sW.out⟩)
     ·have ja:(wu==at_)=false:=by simpa using ha
      have jB:Hid (eH l.reverse ⟨10,th,tx,at_,v,x,3⟩ A=false):=hid (by unfold eH;simp[hlk,ha])
      have k9:=dX.out.cell 9 (v:=.int .u8 A.last) rfl
      have e3:=lV.out.cell 3 (v:=.int .i64 at_) rfl
      have y3:=QO.out.cell 3 (v:=.int .i64 wu) rfl
      clear hlk ha l2
      skip
      go_quiet (fail)
      go_wp2_with fail
      all_goals (go_ret;exact⟨by rw[HQ.out,C9.out,jB.out];try rfl,ai HB4.out _⟩)
    ·have x1:(A.last==2)=false:=by simpa using l2
     have jB:Hid (eH l.reverse ⟨10,th,tx,at_,v,x,3⟩ A=false):=hid (by unfold eH;simp[l2])
     have k9:=dX.out.cell 9 (v:=.int .u8 A.last) rfl
     clear hlk l2
     skip
     go_quiet (fail)
     go_wp2_with fail
     all_goals (go_ret;exact⟨by rw[HQ.out,C9.out,jB.out];try rfl,ai HB4.out _⟩)
   ·skip
    have C9:Hid (fQ S l.reverse ⟨10,th,tx,at_,v,x,4⟩ A=eH l.reverse ⟨10,th,tx,at_,v,x,4⟩ A):=hid (by unfold fQ;simp)
    go_wp2_with fail
    clear e6
    obtain⟨q4,hq4⟩:∃ q:Bool,((A.last==4))=q:=⟨_,rfl⟩
    have Zo:=hid hq4
    obtain⟨p5,Nl⟩:∃ p:Bool,p=(rd||q4):=⟨_,rfl⟩
    have RD:=hid Nl
    obtain⟨q12,hq12⟩:∃ q:Bool,(decide ((iy A.locked) < at_))=q:=⟨_,rfl⟩
    have Il:=hid hq12
    obtain⟨p13,uh⟩:∃ p:Bool,p=(p5&&q12):=⟨_,rfl⟩
    have Io:=hid uh
    obtain⟨p16,GL⟩:∃ p:Bool,p=(p13&&ot):=⟨_,rfl⟩
    have Ux:=hid GL
    have jB:Hid (eH l.reverse ⟨10,th,tx,at_,v,x,4⟩ A=p16):=hid (by
     unfold eH jG o8
     rw[GL,uh,Nl]
     try simp only[←hq4,←hq12,←xG.out,←uG.out,←Dt.out]
     rw[Bool.eq_iff_iff]
     simp
     all_goals (try (intros;omega)))
    clear hq4 Nl hq12 uh GL
    apply aZ (fun qq=>([(.bool rd),(.bool rd),(WF rd (.pointer (some ⟨w2.heap.size,9,none⟩))),(WF rd (.int .u8 A.last)),(WF rd (.bool q4)),(.bool p5),(.bool p5),(WT p5 (.pointer (some ⟨w.heap.size,3,none⟩))),(WT p5 (.int .i64 at_)),(WT p5 (.pointer (some ⟨w2.heap.size,4,none⟩))),(WT p5 (.slice pl A.locked.length cl)),(WT p5 (.int .i64 (iy A.locked))),(WT p5 (.bool q12)),(.bool p13),(.bool p13),(WT p13 (.bool ot)),(.bool p16),(.bool p16)]:List Value).getD qq undef) (fun w'=>Below w5.heap.size w5 w')
    focus (simp[ay,aB,Act.put,List.getD];rfl)
    case hm=>kernel_rfl
    case hd=>kernel_rfl
    case hb=>kernel_rfl
    case iR=>kernel_rfl
    case hsz=>kernel_rfl
    case h0=>exact aj (af _)
    case hstep=>
     refine⟨?_,?_,?_,?_,?_,?_,?_,?_,?_,?_,?_,?_,?_,?_,?_,?_,?_,?_,trivial⟩
     refine dM rfl fun w' hG ρ h1 h2 h3 h4 h5=>?_;have f12:ρ (.tmp 12)=.bool rd:=h5 12 rfl;rotate_left
     refine dM rfl fun w' hG ρ h1 h2 h3 h4 h5=>?_;have aaE:ρ (.tmp 432)=(.bool rd):=h4 0 432 rfl rfl;rotate_left
     refine vI (s:=rd) (x:=(.pointer (some ⟨w2.heap.size,9,none⟩))) rfl rfl rfl fun hs w' hG ρ h1 h2 h3 h4 h5=>?_;subst hs;have f11:ρ (.tmp 11)=.pointer (some ⟨w2.heap.size,0,none⟩):=h5 11 rfl;rotate_left
     refine vI (s:=rd) (x:=(.int .u8 A.last)) rfl rfl rfl fun hs w' hG ρ h1 h2 h3 h4 h5=>?_;subst hs;have aaC:ρ (.tmp 434)=(.pointer (some ⟨w2.heap.size,9,none⟩)):=h4 2 434 rfl rfl;have c:=(dX.out.below hG.out).cell 9 (v:=.int .u8 A.last) rfl;rotate_left
     ·refine vI (s:=rd) (x:=(.bool q4)) rfl rfl rfl fun hs w' hG ρ h1 h2 h3 h4 h5=>?_;subst hs;have aaB:ρ (.tmp 435)=(.int .u8 A.last):=h4 3 435 rfl rfl;clear h4 h5;unfold aO;go_simp;exact⟨congrArg Value.bool Zo.out,hG.out⟩
     ·refine dM rfl fun w' hG ρ h1 h2 h3 h4 h5=>?_;have aaD:ρ (.tmp 433)=(.bool rd):=h4 1 433 rfl rfl;have aaA:ρ (.tmp 436)=(WF rd (.bool q4)):=h4 4 436 rfl rfl;have e5:=RD.out;cases rd <;> simp only[Bool.false_and,Bool.true_and,Bool.true_or,Bool.false_or]at e5 <;> subst e5;all_goals (try dsimp only[WF,WT]at*;clear h4 h5;unfold aO;go_simp;exact⟨rfl,hG.out⟩)
     refine dM rfl fun w' hG ρ h1 h2 h3 h4 h5=>?_;have aaz:ρ (.tmp 437)=(.bool p5):=h4 5 437 rfl rfl;rotate_left
     refine dh (s:=p5) (x:=(.pointer (some ⟨w.heap.size,3,none⟩))) rfl rfl rfl fun hs w' hG ρ h1 h2 h3 h4 h5=>?_;subst hs;have f6:ρ (.tmp 6)=.pointer (some ⟨w.heap.size,0,none⟩):=h5 6 rfl;rotate_left
     refine dh (s:=p5) (x:=(.int .i64 at_)) rfl rfl rfl fun hs w' hG ρ h1 h2 h3 h4 h5=>?_;subst hs;have aax:ρ (.tmp 439)=(.pointer (some ⟨w.heap.size,3,none⟩)):=h4 7 439 rfl rfl;have c:=(lV.out.below hG.out).cell 3 (v:=.int .i64 at_) rfl;rotate_left
     refine dh (s:=p5) (x:=(.pointer (some ⟨w2.heap.size,4,none⟩))) rfl rfl rfl fun hs w' hG ρ h1 h2 h3 h4 h5=>?_;subst hs;have f11:ρ (.tmp 11)=.pointer (some ⟨w2.heap.size,0,none⟩):=h5 11 rfl;rotate_left
     refine dh (s:=p5) (x:=(.slice pl A.locked.length cl)) rfl rfl rfl fun hs w' hG ρ h1 h2 h3 h4 h5=>?_;subst hs;have aav:ρ (.tmp 441)=(.pointer (some ⟨w2.heap.size,4,none⟩)):=h4 9 441 rfl rfl;have c:=(dX.out.below hG.out).cell 4 (v:=.slice pl A.locked.length cl) rfl;rotate_left
     ·refine dh (s:=p5) (x:=(.int .i64 (iy A.locked))) rfl rfl rfl fun hs w' hG ρ h1 h2 h3 h4 h5=>?_;subst hs;have aau:ρ (.tmp 442)=(.slice pl A.locked.length cl):=h4 10 442 rfl rfl;clear h4 h5;unfold aO;go_simp;unfold xE;refine(last_any A.locked _ _ ((HR4.out.rl.Sl).below hG.out) (by have h1:=Bo.out.l;rw[List.length_reverse]at h1;have:=HLEN.out;omega)).mono ?_;rintro e' w1 ⟨rfl,rfl⟩;exact⟨_,rfl,rfl,hG.out⟩
     ·refine dh (s:=p5) (x:=(.bool q12)) rfl rfl rfl fun hs w' hG ρ h1 h2 h3 h4 h5=>?_;subst hs;have aaw:ρ (.tmp 440)=(.int .i64 at_):=h4 8 440 rfl rfl;have aat:ρ (.tmp 443)=(.int .i64 (iy A.locked)):=h4 11 443 rfl rfl;clear h4 h5;unfold aO;go_simp;exact⟨congrArg Value.bool Il.out,hG.out⟩
     ·refine dM rfl fun w' hG ρ h1 h2 h3 h4 h5=>?_;have aay:ρ (.tmp 438)=(.bool p5):=h4 6 438 rfl rfl;have aas:ρ (.tmp 444)=(WT p5 (.bool q12)):=h4 12 444 rfl rfl;have e5:=Io.out;cases p5 <;> simp only[Bool.false_and,Bool.true_and,Bool.true_or,Bool.false_or]at e5 <;> subst e5;all_goals (try dsimp only[WF,WT]at*;clear h4 h5;unfold aO;go_simp;exact⟨rfl,hG.out⟩)
     refine dM rfl fun w' hG ρ h1 h2 h3 h4 h5=>?_;have aar:ρ (.tmp 445)=(.bool p13):=h4 13 445 rfl rfl;rotate_left
     refine dh (s:=p13) (x:=(.bool ot)) rfl rfl rfl fun hs w' hG ρ h1 h2 h3 h4 h5=>?_;subst hs;have f15:ρ (.tmp 15)=.bool ot:=h5 15 rfl;rotate_left
     ·refine dM rfl fun w' hG ρ h1 h2 h3 h4 h5=>?_;have aaq:ρ (.tmp 446)=(.bool p13):=h4 14 446 rfl rfl;have aap:ρ (.tmp 447)=(WT p13 (.bool ot)):=h4 15 447 rfl rfl;have e5:=Ux.out;cases p13 <;> simp only[Bool.false_and,Bool.true_and,Bool.true_or,Bool.false_or]at e5 <;> subst e5;all_goals (try dsimp only[WF,WT]at*;clear h4 h5;unfold aO;go_simp;exact⟨rfl,hG.out⟩)
     refine dM rfl fun w' hG ρ h1 h2 h3 h4 h5=>?_;have aao:ρ (.tmp 448)=(.bool p16):=h4 16 448 rfl rfl;rotate_left
     all_goals (clear h4 h5;unfold aO;go_simp;exact⟨rfl,hG.out⟩)
    case hdone=>
     intro w' hG
     have sW:=hid (ag HB4.out hG)
     clear hG
     go_wp2_with fail
     all_goals (go_ret;exact⟨by rw[HQ.out,C9.out,jB.out];try rfl,sW.out⟩)
   ·skip
    have C9:Hid (fQ S l.reverse ⟨10,th,tx,at_,v,x,5⟩ A=eH l.reverse ⟨10,th,tx,at_,v,x,5⟩ A):=hid (by unfold fQ;simp)
    have g0:=dX.out.cell 0 (v:=.slice pL A.L.length cL) rfl
    have g1:=dX.out.cell 1 (v:=.int .i64 A.rv) rfl
    have g2:=dX.out.cell 2 (v:=.int .i64 A.wv) rfl
    have g3:=dX.out.cell 3 (v:=.slice pr A.read.length cr) rfl
    have g4:=dX.out.cell 4 (v:=.slice pl A.locked.length cl) rfl
    have g5:=dX.out.cell 5 (v:=.slice pf A.freed.length cf) rfl
    have g6:=dX.out.cell 6 (v:=.int .i64 (A.checked:Int)) rfl
    have g7:=dX.out.cell 7 (v:=.slice ps A.stored.length cs) rfl
    have g8:=dX.out.cell 8 (v:=.int .u8 A.why) rfl
    have g9:=dX.out.cell 9 (v:=.int .u8 A.last) rfl
    go_wp2_with fail
    clear e6
    refine(yJ A pL pr pl pf ps cL cr cl cf cs _ ⟨(by have:=UB.out;show _≤A.rv;omega),UB.out.2⟩ LD.out.2.1 (show A.read.length≤1048576 from by have h1:=Bo.out.r;rw[List.length_reverse]at h1;have:=HLEN.out;omega) HR4.out.rr.Sl).mono ?_
    rintro e' w6 ⟨pq,cq,rfl,hb5,hq5⟩
    have Lu:=hid hq5
    have EX:=hid (lV.out.below hb5)
    have EU:=hid (dX.out.below hb5)
    have qN:=hid (ag HB4.out hb5)
    clear hb5 hq5 lV dX HB4 HR4 g0 g1 g2 g3 g4 g5 g6 g7 g8 g9
    have lV:=EX
    have dX:=EU
    have HB4:=qN
    clear EX EU qN
    rcases hlf:leftA A with _ | ⟨y,ys⟩
    ·have jB:Hid (eH l.reverse ⟨10,th,tx,at_,v,x,5⟩ A=false):=hid (by unfold eH;simp[hlf,headB])
     rw[List.length_nil]
     clear hlf Lu
     cases ck <;> (go_wp2_with fail;go_quiet (fail);go_wp2_with fail;all_goals (go_ret;exact⟨by rw[HQ.out,C9.out,jB.out];try rfl,ai HB4.out _⟩))
    ·skip
     obtain⟨lb,lo,rfl,hcy⟩:=Lu.out (by rw[hlf];simp)
     have OH:=hid (hcy y (by rw[hlf];rfl))
     have hhd:headB (leftA A) at_=(y==at_):=by unfold headB;rw[hlf,List.head?_cons,Bool.eq_iff_iff,decide_eq_true_eq,beq_iff_eq];exact⟨fun h=>Option.some.inj h,fun h=>by rw[h]⟩
     obtain⟨N,hN⟩:∃ N,N=(y :: ys).length:=⟨_,rfl⟩
     have hN1:N=ys.length+1:=by rw[hN];rfl
     rw[←hN]
     have JN:=hid (show decide ((0:Int) < (N:Int))=true∧(0:Int) < (N:Int)∧0 < N from⟨decide_eq_true (by omega),by omega,by omega⟩)
     clear hcy hN hN1 hlf Lu
     have jB:Hid (eH l.reverse ⟨10,th,tx,at_,v,x,5⟩ A=(ck&&(y==at_)&&(ot||nw))):=hid (by unfold eH oN o8;(try simp only[←xG.out,←uG.out,←Dt.out,←WE.out]);rw[Bool.eq_iff_iff];simp[hhd];all_goals (try (intros;omega)))
     clear hhd
     obtain⟨y1,y2,y3⟩:=JN.out
     have c:=OH.out
     have e3:=lV.out.cell 3 (v:=.int .i64 at_) rfl
     go_wp2_with fail
     cases ck
     ·go_quiet (fail);go_wp2_with fail;all_goals (go_ret;exact⟨by rw[HQ.out,C9.out,jB.out];try rfl,ai HB4.out _⟩)
     ·cases ja:(y==at_)
      ·rw[ja]at jB;go_quiet (fail);go_wp2_with fail;all_goals (go_ret;exact⟨by rw[HQ.out,C9.out,jB.out];try rfl,ai HB4.out _⟩)
      ·rw[ja]at jB;cases ot <;> (go_quiet (fail);go_wp2_with fail;all_goals (go_ret;exact⟨by rw[HQ.out,C9.out,jB.out];try rfl,ai HB4.out _⟩))
   ·skip
    have C9:Hid (fQ S l.reverse ⟨10,th,tx,at_,v,x,6⟩ A=eH l.reverse ⟨10,th,tx,at_,v,x,6⟩ A):=hid (by unfold fQ;simp)
    have jB:Hid (eH l.reverse ⟨10,th,tx,at_,v,x,6⟩ A=(A.last==4)):=hid (by unfold eH;(try simp only[←xG.out,←uG.out,←Dt.out,←WE.out]);rw[Bool.eq_iff_iff];simp;all_goals (try (intros;omega)))
    have k9:=dX.out.cell 9 (v:=.int .u8 A.last) rfl
    go_wp2_with fail
    all_goals (go_ret;exact⟨by rw[HQ.out,C9.out,jB.out];try rfl,HB4.out⟩)
end Go.Proofs.YtcddlnmcjmhbcaaDoor
-- short
