/-
  Joined texts: HiE HiF HiM.
-/
import Derived.RangeFuncNested
import Derived.RangeFuncBound
import Derived.RangeFuncCalls
import Derived.RangeFuncLeaves
import Derived.Shelf.Abstract
import Derived.Shelf.RegionOpen
import Derived.WalkKit
import Derived.OwnWalkIn
import Derived.TacticsInMore
import Derived.LoopNIn
import Derived.LoopIn
import Derived.Maps.OwnIn
import Derived.Maps.Views
import Derived.Test.YtcddlnmcjmhbcaaDoorHtB
import Derived.Test.YtcddlnmcjmhbcaaDoorHtA
import Derived.Test.YtcddlnmcjmhbcaaDoorShV
import Derived.Test.YtcddlnmcjmhbcaaDoorShVc
import Derived.RangeFuncBox
import Derived.Maps.AppendAt
import Derived.Test.YtcddlnmcjmhbcaaDoorRgG
import Derived.Laws.OwnMore
import Derived.Test.YtcddlnmcjmhbcaaDoorProg
namespace Go.Proofs.YtcddlnmcjmhbcaaDoor
set_option linter.unusedVariables false
set_option linter.unusedSimpArgs false
open Go Go.RowKit Go.Shelf
attribute [local go_sem] Oper.semAt_some
def ou (W:World) (b n:Nat) (f:Int→Nat):Prop:=
 ∃ D:DataW Unit,W.ownsMap Tryd.prog 3 (plainElem (H:=Unit) Tryd.prog 3) b n D∧Maps.IsMap D∧∀ t:Int,(Lit.int .i64 t).wf=true→D.atKey (.int .i64 t) (.lit (.int .i64 0))=.lit (.int .i64 (f t:Int))
theorem ou.new (W:World):ou (W.alloc (.map #[] 0)) W.heap.size 0 (fun _=>0):=
 ⟨_,World.ownsMap_made W _ _ _,Maps.isMap_empty,fun t ht=>rfl⟩
theorem ou.lt {W:World} {b n:Nat} {f:Int→Nat} (h:ou W b n f):b < W.heap.size:=by
 obtain⟨D,⟨es,ck,hb,_⟩,_⟩:=h
 exact(Array.getElem?_eq_some_iff.1 hb).1
theorem ou.block {W W':World} {b n:Nat} {f:Int→Nat} (h:ou W b n f) (hb:W'.heap[b]? =W.heap[b]?):ou W' b n f:=by
 obtain⟨D,⟨es,ck,hh,r⟩,k⟩:=h
 exact⟨D,⟨es,ck,by rw[hb];exact hh,r⟩,k⟩
theorem ou.walks {W W':World} {b n:Nat} {f:Int→Nat} (h:ou W b n f) (hk:KeepsWalks W W'):ou W' b n f:=by
 obtain⟨D,⟨es,ck,hh,r⟩,k⟩:=h
 exact⟨D,⟨es,ck,hk.same b _ hh rfl,r⟩,k⟩
theorem ou.grown {W W':World} {b n:Nat} {f:Int→Nat} (h:ou W b n f) (hg:W.grownBy W' none):ou W' b n f:=h.block (hg.block b h.lt (by simp))
theorem wf64 {t:Int} (h:-9223372036854775808≤t∧t≤9223372036854775807):(Lit.int .i64 t).wf=true:=by
 simp[Lit.wf,IntKind.min,IntKind.max,IntKind.bits,IntKind.signed];omega
theorem ou.put {W':World} {D:DataW Unit} {b n k:Nat} {t:Int} {f:Int→Nat} (hD:Maps.IsMap D) (hat:∀ t:Int,(Lit.int .i64 t).wf=true→D.atKey (.int .i64 t) (.lit (.int .i64 0))=.lit (.int .i64 (f t:Int)))
  (h:W'.ownsMap Tryd.prog 3 (plainElem (H:=Unit) Tryd.prog 3) b n (D.put (.int .i64 t) (.lit (.int .i64 (k:Int))))):ou W' b n (oW f t k):=by
 refine⟨_,h,?_,fun u hu=>?_⟩
 ·obtain⟨es,rfl⟩:=hD;exact⟨_,rfl⟩
 ·unfold oW
  by_cases he:u=t
  ·subst he
   rw[if_pos rfl]
   exact Maps.atKey_put_same hD (by simp[WideAt.IsKeyLit]) _ _
  ·rw[if_neg he,Maps.atKey_put_other (by simp[he])]
   exact hat u hu
theorem iY.calm {B:Nat} {J:World→Prop} (h:iY B J) {W W':World} (hJ:J W) (hg:W.grownBy W' none):J W':=h W W' Option.none hJ hg (fun r e=>by cases e)
theorem iY.map {B:Nat} {J:World→Prop} (h:iY B J) {W W':World} {b n:Nat} {D:DataW Unit} {R:Value→Option (DataW Unit×List MemPlace)} {P:Program} {k:TypeId} (hJ:J W) (hg:W.grownBy W' (some b)) (hb:B≤b) (ho:W.ownsMap P k R b n D):J W':=by
 obtain⟨es,ck,hh,_⟩:=ho
 exact h W W' (some b) hJ hg (fun r e=>by cases e;exact⟨hb,_,hh,rfl⟩)
theorem LW (h:HS) (i:Int) (e:Ev):(dS h i e).out.length≤h.out.length+1:=by
 unfold dS
 split
 ·simp
 ·split
  ·omega
  ·simp
theorem uZ:∀ (l:List Ev) (h:HS) (i:Int),(gZ h i l).out.length≤h.out.length+l.length
 | [],h,i=>Nat.le_refl _
 | e :: l,h,i=>by
  have:=uZ l (dS h i e) (i+1)
  have h2:=LW h i e
  simp only[List.length_cons]
  show(gZ (dS h i e) (i+1) l).out.length≤_
  omega
set_option maxRecDepth 100000 in
set_option maxHeartbeats 4000000 in
theorem G8 (F:Fence) (n:Nat) (hF:F.fn 64) (hro:F.round=none) (hn:1≤n) (lp B n₀:Nat) (T V S:Int) (a:Option Addr) (l:List Ev) (cap:Nat) (hl:l.length≤1048576) (J:Nat→World→Prop) (W:World) (hab:∀ k,iY W.heap.size (J k)) (hn₀:n₀≤W.heap.size)
  (hY:∀ k W1,J k W1→k < l.length→YieldAt F (n-1) Tryd.prog lp #[.int .i64 (k:Int),.int .i64 (mD l k)] W1 fun e W'=>e=.returned (.bool true)∧J (k+1) W'∧qC n₀ W1 W')
  (hbox:W.cell? ⟨B,3,none⟩=some (.slice a l.length cap)) (hE:cO W a l) (NK:∀ b o,a=some ⟨b,o,none⟩→l≠[]→b < n₀) (h0:J 0 W):
  CallsIn F n Tryd.prog 64 #[.func (.yield lp) #[] #[],.pointer (some ⟨B,0,none⟩)] W fun e W'=>(∃ v,e=.returned v)∧J l.length W':=by
 have hmm:=@run_makeMap Tryd.prog
 have HE:=hid hE
 have HAB:=hid hab
 have HY:=hid hY
 have HL:=hid hl
 have UI:=hid NK
 have HN:=hid hn₀
 have Vb:=hid h0
 have aad:(W.alloc (.map #[] 0)).cell? ⟨B,3,none⟩=some (.slice a l.length cap):=aG hbox
 clear hE hab hY hl NK hn₀ h0
 refine callsIn_of_wp Tryd.func64 rfl hF ?_ hro
 simp only[Tryd.ntmps64,List.size_toArray,List.length_cons,List.length_nil,Nat.reduceAdd,Nat.reduceSub,Array.replicate_succ,Array.replicate_zero,List.push_toArray,List.append_toArray,List.nil_append,List.cons_append]
 gi_wp2
 gi_loopw [4,12] (fun b i wr=>∃ (k m:Nat),k≤l.length∧m≤k∧i=.int .i64 (k:Int)∧b=.int .i64 (((az (l.take k)).out.length:Nat):Int)∧Hid (ou wr W.heap.size m (az (l.take k)).last)∧Hid (J k wr)∧Hid (Below n₀ W wr)) (fun _ i _=>l.length-(intOf i).toNat)
 case atStart=>
  refine⟨0,0,Nat.zero_le _,Nat.le_refl _,rfl,rfl,hid (ou.new W),hid ((HAB.out 0).calm Vb.out (World.grownBy_alloc _ _ _)),hid ((Below.refl _ _).alloc HN.out _)⟩
 case round=>
  obtain⟨k,m,hk,hm,rfl,rfl,HM,HJ,HB⟩:=hrel
  have uA:=hid hk
  by_cases hlt:k < l.length
  ·have j1:decide ((k:Int) < (l.length:Int))=true:=by rw[decide_eq_true_iff];omega
   have j2:(0:Int)≤(k:Int):=by omega
   have j3:IntKind.i64.wrap ((k:Int)+1)=(k:Int)+1:=IntWalk.i64_in _ (by have:=HL.out;omega)
   have j4:decide (k < l.length)=true:=by rw[decide_eq_true_iff];omega
   obtain⟨b,o,rfl,hcell⟩:=HE.out.2 (by intro h;rw[h]at hlt;simp at hlt)
   have hbn:=UI.out b o rfl (by intro h;rw[h]at hlt;simp at hlt)
   have La:=hid (HE.out.1 l[k] (List.getElem_mem hlt))
   have hof:=rE hlt
   have hst:=uo hlt
   have Wn:=hid (fun W1 hJ=>HY.out k W1 hJ hlt)
   have hole:(az (l.take k)).out.length≤k:=by
    have:=uZ (l.take k) nJ 0
    rw[List.length_take,Nat.min_eq_left hk]at this
    show(gZ nJ 0 (l.take k)).out.length≤k
    have h0:nJ.out.length=0:=rfl
    omega
   have j5:IntKind.i64.wrap (((az (l.take k)).out.length:Int)+1)=((az (l.take k)).out.length:Int)+1:=IntWalk.i64_in _ (by have:=HL.out;omega)
   rcases iG:l[k]with⟨kind,th,tx,at_,v,x,why⟩
   have e0:=(HB.out.cell (p:=⟨b,o+k*7+0,none⟩) hbn).trans (hcell k hlt 0 (.int .u8 kind) (by rw[iG];rfl))
   have e1:=(HB.out.cell (p:=⟨b,o+k*7+1,none⟩) hbn).trans (hcell k hlt 1 (.int .i64 th) (by rw[iG];rfl))
   have e2:=(HB.out.cell (p:=⟨b,o+k*7+2,none⟩) hbn).trans (hcell k hlt 2 (.int .i64 tx) (by rw[iG];rfl))
   have e3:=(HB.out.cell (p:=⟨b,o+k*7+3,none⟩) hbn).trans (hcell k hlt 3 (.int .i64 at_) (by rw[iG];rfl))
   have e4:=(HB.out.cell (p:=⟨b,o+k*7+4,none⟩) hbn).trans (hcell k hlt 4 (.int .i64 v) (by rw[iG];rfl))
   have e5:=(HB.out.cell (p:=⟨b,o+k*7+5,none⟩) hbn).trans (hcell k hlt 5 (.int .i64 x) (by rw[iG];rfl))
   have e6:=(HB.out.cell (p:=⟨b,o+k*7+6,none⟩) hbn).trans (hcell k hlt 6 (.int .u8 why) (by rw[iG];rfl))
   rw[Nat.add_zero]at e0
   rw[iG]at La hof hst
   have bf:=hid hlt
   obtain⟨W1,hW1⟩:∃ W1,W1=wr.alloc (.cells #[.int .u8 kind,.int .i64 th,.int .i64 tx,.int .i64 at_,.int .i64 v,.int .i64 x,.int .u8 why] 49):=⟨_,rfl⟩
   have hJ1:J k W1:=(HAB.out k).calm HJ.out (by rw[hW1];exact World.grownBy_alloc _ _ _)
   have U9:Hid (ou W1 W.heap.size m (az (l.take k)).last):=hid (HM.out.grown (by rw[hW1];exact World.grownBy_alloc _ _ _))
   have HB1:Hid (Below n₀ W W1):=hid (by rw[hW1];exact HB.out.alloc (Nat.le_trans HN.out HB.out.size) _)
   have hkey:=Maps.keyOf_int_mk (P:=Tryd.prog) Tryd.underlying3 (wf64 La.out.2.1)
   clear hcell iG hlt hk
   by_cases k1:kind=1
   ·subst k1
    have xu:mD l k=(((az (l.take k)).out.length:Nat):Int):=by rw[hof];unfold Fb;exact if_pos rfl
    obtain⟨D,hown,hD,hat⟩:=U9.out
    have HAT:=hid (And.intro hD hat)
    have HST:Hid ((az (l.take (k+1))).out.length=(az (l.take k)).out.length+1∧(az (l.take (k+1))).last=oW (az (l.take k)).last th (az (l.take k)).out.length):=hid (by
     rw[hst];unfold dS;rw[if_pos rfl];exact⟨by simp,rfl⟩)
    have hwfn:(Lit.int .i64 (((az (l.take k)).out.length:Nat):Int)).wf=true:=wf64 (by have:=HL.out;have:=bf.out;omega)
    have hml:m < maxLen:=by have:=HL.out;have:=bf.out;unfold maxLen;omega
    rw[xu]at Wn
    have ZP:=hid hJ1
    clear hof xu hst hD hat hJ1 HM
    have HW1:=hid hW1
    clear hW1
    gi_wp2_with (first
     | (gi_at_mapUpdate;rw[←HW1.out];refine wpListIn_mapUpdate_own _ rfl _ _ _ 105 rfl 3 3 (Maps.int_keyed Tryd.underlying3) Tryd.underlying105 _ W.heap.size m _ rfl hown hml _ _ _ rfl rfl hkey _ [] (plainElem_int Tryd.underlying3 hwfn) ?_;intro w1 hown1 hgrow1;obtain⟨fn,tmps,assign,body,hy,hR⟩:=Wn.out w1 ((HAB.out k).map ZP.out hgrow1 (Nat.le_refl _) hown);(try dsimp only at hy)))
    refine hR.mono ?_
    rintro e' W3 ⟨rfl,hJ3,hk3⟩
    have RH:Hid (ou W3 W.heap.size (m+1) (az (l.take (k+1))).last):=hid (by rw[HST.out.2];exact(ou.put HAT.out.1 HAT.out.2 hown1).walks hk3.2)
    have HB3:Hid (Below n₀ W W3):=hid ((HB1.out.grown hgrow1 (Nat.le_trans HN.out HB1.out.size) (fun k e=>by cases e;exact HN.out)).trans hk3.1)
    have QU:=hid hJ3
    clear hJ3 hk3
    gi_wp2
    go_roundw
    case rel=>exact⟨k+1,m+1,by have:=bf.out;omega,by omega,by simp,by rw[HST.out.1];simp,RH,QU,HB3⟩
    case measure=>have:=bf.out;simp[intOf];omega
   ·by_cases k13:kind=13
    ·subst k13
     have xu:mD l k=-1:=by rw[hof];unfold Fb;rfl
     have HST:Hid ((az (l.take (k+1))).out.length=(az (l.take k)).out.length∧(az (l.take (k+1))).last=(az (l.take k)).last):=hid (by
      rw[hst];exact⟨rfl,rfl⟩)
     obtain⟨fn,tmps,assign,body,hy,hR⟩:=Wn.out W1 hJ1
     rw[xu]at hy
     subst hW1
     clear hof xu hst hJ1 HM
     gi_wp2
     refine hR.mono ?_
     rintro e' W3 ⟨rfl,hJ3,hk3⟩
     have RH:Hid (ou W3 W.heap.size m (az (l.take (k+1))).last):=hid (by rw[HST.out.2];exact U9.out.walks hk3.2)
     have HB3:Hid (Below n₀ W W3):=hid (HB1.out.trans hk3.1)
     have QU:=hid hJ3
     clear hJ3 hk3
     gi_wp2
     go_roundw
     case rel=>exact⟨k+1,m,by have:=bf.out;omega,by omega,by simp,by rw[HST.out.1],RH,QU,HB3⟩
     case measure=>have:=bf.out;simp[intOf];omega
    ·have g1:(kind==1)=false:=beq_eq_false_iff_ne.2 k1
     have g13:(kind==13)=false:=beq_eq_false_iff_ne.2 k13
     have xu:mD l k=(((az (l.take k)).last th:Nat):Int):=by rw[hof];unfold Fb;rw[if_neg k1,if_neg k13]
     obtain⟨D,hown,hD,hat⟩:=U9.out
     have HST:Hid ((az (l.take (k+1))).out.length=(az (l.take k)).out.length∧(az (l.take (k+1))).last=(az (l.take k)).last):=hid (by
      rw[hst];unfold dS;rw[if_neg k1,if_neg k13];exact⟨by simp,rfl⟩)
     have VZ:=hat th (wf64 La.out.2.1)
     rw[xu]at Wn
     have ZP:=hid hJ1
     have Z7:=hid VZ
     clear hof xu hst hD hat VZ hJ1 HM k1 k13
     have HW1:=hid hW1
     clear hW1
     gi_wp2_with (first
      | (gi_at_lookup;rw[←HW1.out];refine wpListIn_lookup_own_int _ rfl _ _ 105 rfl 3 3 .i64 (Maps.int_keyed Tryd.underlying3) Tryd.underlying105 Tryd.underlying3 (Tryd.zeroValue3 _) W.heap.size m _ rfl hown _ _ rfl hkey ?_;intro c VX hwc;obtain rfl:c=(((az (l.take k)).last th:Nat):Int):=(by(have:=VX.symm.trans Z7.out;simpa using this));clear VX;obtain⟨fn,tmps,assign,body,hy,hR⟩:=Wn.out W1 ZP.out;(try dsimp only at hy)))
     refine hR.mono ?_
     rintro e' W3 ⟨rfl,hJ3,hk3⟩
     have RH:Hid (ou W3 W.heap.size m (az (l.take (k+1))).last):=hid (by rw[HST.out.2];exact U9.out.walks hk3.2)
     have HB3:Hid (Below n₀ W W3):=hid (HB1.out.trans hk3.1)
     have QU:=hid hJ3
     clear hJ3 hk3
     gi_wp2
     go_roundw
     case rel=>exact⟨k+1,m,by have:=bf.out;omega,by omega,by simp,by rw[HST.out.1],RH,QU,HB3⟩
     case measure=>have:=bf.out;simp[intOf];omega
  ·obtain rfl:k=l.length:=by have:=uA.out;omega
   have j1:decide ((l.length:Int) < (l.length:Int))=false:=by rw[decide_eq_false_iff_not];omega
   have j4:decide (l.length < l.length)=false:=by rw[decide_eq_false_iff_not];omega
   gi_wp2
   go_end0
   exact⟨⟨_,rfl⟩,HJ.out⟩
attribute [local go_sem] Oper.semAt_some
set_option maxRecDepth 100000 in
set_option maxHeartbeats 4000000 in
theorem zq (T V S:Int) (a:Option Addr) (n cap:Nat) (w:World):
  Calls Tryd.prog 25 #[oZ T V S a n cap] w fun e w'=>e=.returned (.func (.func 64) #[] #[.pointer (some ⟨w.heap.size,0,none⟩)])∧w'=w.alloc (.cells #[.int .i64 T,.int .i64 V,.int .i64 S,.slice a n cap] 24):=by
 dsimp only[oZ]
 go_enter Tryd.func25,Tryd.ntmps25
 go_wp2_with fail
 go_ret
 exact⟨rfl,rfl⟩
theorem G7 {w:World} {a:Option Addr} {l:List Ev} (h:cO w a l):∀ b o,a=some ⟨b,o,none⟩→l≠[]→b < w.heap.size:=by
 intro b o ha hn
 obtain⟨b',o',h1,h2⟩:=h.2 hn
 rw[ha]at h1
 cases h1
 have hp:0 < l.length:=List.length_pos_iff.2 hn
 exact lt_of_cell (h2 0 hp 0 (.int .u8 (l[0]'hp).kind) rfl)
theorem wX (n n₀:Nat) (hn:1≤n) (B:Nat) (T V S:Int) (a:Option Addr) (l:List Ev) (cap:Nat) (hl:l.length≤1048576) (w:World) (hn₀:n₀≤w.heap.size)
  (hbox:w.cell? ⟨B,3,none⟩=some (.slice a l.length cap)) (hE:cO w a l) (NK:∀ b o,a=some ⟨b,o,none⟩→l≠[]→b < n₀):
  CW Fence.wide n Tryd.prog 64 #[.pointer (some ⟨B,0,none⟩)] (fun k=>#[.int .i64 (k:Int),.int .i64 (mD l k)]) l.length (qC n₀) w:=by
 intro lp J W hW hab hY h0
 exact G8 Fence.wide n trivial rfl hn lp B n₀ T V S a l cap hl J W hab (Nat.le_trans hn₀ hW.size) hY ((hW.cell (p:=⟨B,3,none⟩) (lt_of_cell hbox)).trans hbox) (hE.below hW) NK h0
theorem rX {T V S:Int} {l:List Ev} (h:(aW T V S l).2=0):eY T V S=true∧l.length≤1048576∧∃ s,Hist T V S l s:=by
 unfold aW at h
 split at h
 ·cases h
 ·rename_i hz
  have hz:eY T V S=true:=by simpa using hz
  split at h
  ·cases h
  ·split at h
   ·cases h
   ·rename_i h1 h2
    have hc:jJ (fF T V S) l=l.length:=by have:=KD l (fF T V S);omega
    have:=(Bc l (fF T V S)).1 hc
    obtain⟨s,hs⟩:=Option.isSome_iff_exists.1 this
    exact⟨hz,by omega,s,hz,hs⟩
theorem IQ:(Tryd.prog.info? 3).map (fun i=>(i.zero,i.size,i.bytes))=some (some (.int .i64 0),1,8):=by kernel_rfl
def sG (T V S:Int) (l:List Ev) (w:World) (e:Ending) (w':World):Prop:=
 ∃ v,e=.returned (.tuple #[v,.int .i64 (aW T V S l).2])∧Below w.heap.size w w'∧
  w'.ownsRow w.heap.size 3 1 v (if(aW T V S l).2=0 then l.length else 0) (if(aW T V S l).2=0 then(Fa l).map (.int .i64)else[])
set_option maxRecDepth 100000 in
set_option maxHeartbeats 4000000 in
theorem LY (T V S:Int) (a:Option Addr) (l:List Ev) (cap:Nat) (w:World) (hE:cO w a l) (hK:bn w) (hT:gJ w) (hc:(aW T V S l).2≠0):
  Calls Tryd.prog 10 #[oZ T V S a l.length cap] w (sG T V S l w):=by
 obtain⟨W1,hW1⟩:∃ W1,W1=w.alloc (.cells #[.int .i64 T,.int .i64 V,.int .i64 S,.slice a l.length cap] 24):=⟨_,rfl⟩
 have hB1:Below w.heap.size w W1:=by rw[hW1];exact ah (af _) _
 have HC:=hid (sV T V S a l cap W1 (hE.below hB1) (hK.below hB1) (hT.below hB1))
 have HP:∀ W',Below W1.heap.size W1 W'→sG T V S l w (.returned (.tuple #[.slice none 0 0,.int .i64 (aW T V S l).2])) W':=fun W' hb=>⟨_,rfl,ag hB1 hb,by rw[if_neg hc,if_neg hc];exact World.ownsRow_nil _ _ _ _⟩
 have HP:=hid HP
 obtain⟨Q,hQ⟩:∃ Q,Q=sG T V S l w:=⟨_,rfl⟩
 rw[←hQ]at HP⊢
 obtain⟨p,q,hpq⟩:∃ p q,aW T V S l=(p,q):=⟨_,_,rfl⟩
 rw[hpq]at HC HP hc
 dsimp only at HC HP hc
 have g1:(q==0)=false:=beq_eq_false_iff_ne.2 hc
 have g2:(q !=0)=true:=bne_iff_ne.2 hc
 dsimp only[oZ]at HC⊢
 have HW1:=hid hW1
 clear hE hK hT hc hQ hW1 hB1 hpq
 go_enter Tryd.func10,Tryd.ntmps10
 go_wp2_with fail
 rw[←HW1.out]
 refine HC.out.mono ?_
 rintro e' w2 ⟨rfl,hb2⟩
 go_wp2_with fail
 exact HP.out _ hb2
set_option maxRecDepth 100000 in
set_option maxHeartbeats 4000000 in
theorem split_ok (T V S:Int) (a:Option Addr) (l:List Ev) (cap:Nat) (w:World) (hE:cO w a l) (hK:bn w) (hT:gJ w) (hc:(aW T V S l).2=0):
  Calls Tryd.prog 10 #[oZ T V S a l.length cap] w (sG T V S l w):=by
 obtain⟨W1,hW1⟩:∃ W1,W1=w.alloc (.cells #[.int .i64 T,.int .i64 V,.int .i64 S,.slice a l.length cap] 24):=⟨_,rfl⟩
 have hB1:Below w.heap.size w W1:=by rw[hW1];exact ah (af _) _
 have hbx:aA W1 w.heap.size #[.int .i64 T,.int .i64 V,.int .i64 S,.slice a l.length cap] 24:=by rw[hW1];exact aA.new _ _ _
 have HC:=hid (sV T V S a l cap W1 (hE.below hB1) (hK.below hB1) (hT.below hB1))
 have HP:∀ v W',Below w.heap.size w W'→W'.ownsRow w.heap.size 3 1 v l.length ((Fa l).map (.int .i64))→sG T V S l w (.returned (.tuple #[v,.int .i64 0])) W':=fun v W' hb ho=>⟨v,by rw[hc],hb,by rw[if_pos hc,if_pos hc];exact ho⟩
 have HP:=hid HP
 obtain⟨Q,hQ⟩:∃ Q,Q=sG T V S l w:=⟨_,rfl⟩
 rw[←hQ]at HP⊢
 have hlen:=(rX hc).2.1
 obtain⟨p,q,hpq⟩:∃ p q,aW T V S l=(p,q):=⟨_,_,rfl⟩
 rw[hpq]at HC hc
 dsimp only at HC hc
 subst hc
 dsimp only[oZ]at HC⊢
 have HW1:=hid hW1
 have HB1:=hid hB1
 have HE:=hid hE
 have HL:=hid hlen
 have HX:=hid hbx
 have Le:=hid (zq T V S a l.length cap)
 dsimp only[oZ]at Le
 clear hE hK hT hQ hW1 hB1 hpq hlen hbx
 refine(callsIn_wide (n:=3)).1 ?_
 refine callsIn_of_wp_marks Tryd.func10 rfl trivial ?_ rfl
 simp only[Tryd.ntmps10,List.size_toArray,List.length_cons,List.length_nil,Nat.reduceAdd,Nat.reduceSub,Array.replicate_succ,Array.replicate_zero,List.push_toArray,List.append_toArray,List.nil_append,List.cons_append]
 gi_wp2_with (first
  | (refine⟨trivial,?_⟩;gi_at_call 6;rw[←HW1.out];refine(callsIn_wide.2 HC.out).mono ?_;rintro e' w2 ⟨rfl,hb2⟩;have hx2:=(HX.out.below hb2).alloc (.cells #[.slice none 0 0] 32);have x0:=hx2.cell 0 (v:=.int .i64 T) rfl;have x1:=hx2.cell 1 (v:=.int .i64 V) rfl;have x2:=hx2.cell 2 (v:=.int .i64 S) rfl;have x3:=hx2.cell 3 (v:=.slice a l.length cap) rfl)
  | (refine⟨trivial,?_⟩;gi_at_call 25;refine(callsIn_wide.2 (Le.out _)).mono ?_;rintro e' w3 ⟨rfl,rfl⟩))
 obtain⟨W2,hW2⟩:∃ W2,W2=(w2.alloc (.cells #[.slice none 0 0] 32)).alloc (.cells #[.int .i64 T,.int .i64 V,.int .i64 S,.slice a l.length cap] 24):=⟨_,rfl⟩
 have hB2:Below w2.heap.size w2 W2:=by rw[hW2];exact ah (ah (af _) _) _
 have hBw2:Below w.heap.size w w2:=ag HB1.out hb2
 have hBw:Below w.heap.size w W2:=ag hBw2 hB2
 have hsz:W2.heap.size=w2.heap.size+2:=by rw[hW2,World.size_alloc,World.size_alloc]
 have YW:Boxed W2 w2.heap.size 32 (.slice none 0 0):=by rw[hW2];exact(Boxed.new _ _ _).alloc _
 have YV:W2.cell? ⟨w2.heap.size+1,3,none⟩=some (.slice a l.length cap):=by
  rw[hW2]
  have:=(aA.new (w2.alloc (.cells #[.slice none 0 0] 32)) #[.int .i64 T,.int .i64 V,.int .i64 S,.slice a l.length cap] 24).cell 3 (v:=.slice a l.length cap) rfl
  rwa [World.size_alloc]at this
 have V7:=HE.out.below hBw
 have NK:=G7 HE.out
 have hle2:w.heap.size≤w2.heap.size:=hBw2.size
 rw[←hW2]
 have HR:=hid (wX 2 w.heap.size (by omega) (w2.heap.size+1) T V S a l cap HL.out W2 hBw.size YV V7 NK)
 have jM:=hid hBw
 have vK:=hid (And.intro hsz hle2)
 have hi:=info_parts IQ
 obtain⟨i0,hi0,hz0,hz1,hz2⟩:=hi
 clear V7 NK hB2 hBw2 hBw x0 x1 x2 x3 hx2 hW2
 apply lW (encs:=fun k=>#[.int .i64 (k:Int),.int .i64 (mD l k)]) (Kp:=qC w.heap.size) (N:=l.length) (w0:=W2) rfl (by omega) (gf:=64) (lb:=#[.pointer (some ⟨w2.heap.size+1,0,none⟩)]) rfl trivial (enters_of Tryd.func64 (by kernel_rfl) rfl) HR.out yP (yQ jM.out.size) (Below.refl _ _) (fun _=>rfl)
  (fun k W=>(∃ v,Boxed W w2.heap.size 32 v∧W.ownsRow w.heap.size 3 1 v k (((Fa l).take k).map (.int .i64))∧(v=.slice none 0 0↔k=0))∧Below w.heap.size w W)
  (OwnFrom.and (Own.from (holdsRow_own w.heap.size w2.heap.size 32 3 1 (fun k=>k) (fun k=>((Fa l).take k).map (.int .i64)) (fun k v=>v=.slice none 0 0↔k=0)) _) (ownFrom_below (Nat.le_refl _) jM.out.size))
  ⟨⟨_,YW,by simpa using World.ownsRow_nil _ _ _ _,by simp⟩,jM.out⟩
 case hassign=>
  intro lp k W K hK
  gi_wp2
  exact hK
 case hbody=>
  rintro lp k W ⟨⟨v,hv,hrow,hnil⟩,hB⟩ hk
  have hlo:(Fa l).length=l.length:=BX l nJ 0
  have hT:(Fa l).take (k+1)=(Fa l).take k++[mD l k]:=by
   rw[List.take_succ_eq_append_getElem (by rw[hlo];exact hk)]
   congr 2
   simp only[BU]
   rw[List.getElem_map,List.getElem_range]
  have h63:k+1≤maxLen:=by have:=HL.out;unfold maxLen;omega
  have hby:(k+1)*8≤140737488355328:=by have:=HL.out;omega
  have Ri:=hv.cell
  have hle:=vK.out.2
  have hsW:=hB.size
  gi_wp2_with (gi_at_builtin;refine wpListIn_append_own _ rfl _ _ 32 rfl w.heap.size 3 i0 (.int .i64 0) 1 8 Tryd.underlying32 hi0 hz0 hz1 hz2 rfl (by decide) _ _ _ rfl (hrow.alloc _) ⟨W.heap.size,0,none⟩ 1 1 [.int .i64 (mD l k)] rfl rfl (cell_one_new _ _ _) (by simp[Value.oneCell']) h63 hby (by rw[World.size_alloc];omega) ?_;intro v' w1 hown' hgrow _;obtain⟨g',cap',rfl⟩:=ownsRow_succ hown';obtain⟨hv1,hv2,hr2,hk2,hb2'⟩:=hv.appended (by decide) hrow hsW hle hown' hgrow;have hc1:=hv1.cell;have hf1:=hv1.frozen)
  exact⟨hk2.from _,⟨hb2',hk2.walks⟩,⟨_,hv2,by rw[hT,List.map_append];exact hr2,by simp⟩,hB.trans hb2'⟩
 case hdone=>
  rintro D W hD ⟨⟨v,hv,hrow,hnil⟩,hB⟩ hK
  have Ri:=hv.cell
  have hlo:(Fa l).length=l.length:=BX l nJ 0
  gi_wp2
  refine⟨by simp,.inl ⟨_,_,rfl,run_takeDeferred hK,?_⟩⟩
  refine⟨.tuple #[v,.int .i64 0],by simp[results,Tryd.results10,go_sem],?_⟩
  refine HP.out v _ (hB.trans (belowK_b vK.out.2 W D _ _ (by have:=vK.out;omega) hK rfl rfl)) ?_
  have:=ownsRow_putObj hrow (.deferred none) hK rfl
  rwa [←hlo,List.take_length,hlo]at this
end Go.Proofs.YtcddlnmcjmhbcaaDoor
namespace Go.Proofs.YtcddlnmcjmhbcaaDoor
set_option linter.unusedVariables false
set_option linter.unusedSimpArgs false
open Go Go.RowKit
def dw (l:List (Int×Int)):List Value:=l.flatMap fun p=>[.int .i64 p.1,.int .i64 p.2]
theorem rD (l:List (Int×Int)) (p:Int×Int):dw (l++[p])=dw l++[.int .i64 p.1,.int .i64 p.2]:=by
 unfold dw;rw[List.flatMap_append];rfl
def kP (a:aH) (r w:Value):List Value:=[.int .i64 a.th,.int .i64 a.tx,.int .i64 a.from_,.int .i64 a.dI,.int .i64 a.rv,.int .i64 a.wv,.bool a.com,r,w]
def kK (L:List aH) (H:Nat→Bool→Value):List Value:=(List.range L.length).flatMap fun k=>kP (L.getD k aH.zero) (H k false) (H k true)
theorem kW {m:Nat} (f:Nat→List Value) (hf:∀ i,(f i).length=m):∀ n,((List.range n).flatMap f).length=n*m
 | 0=>by simp
 | n+1=>by rw[List.range_succ,List.flatMap_append,List.length_append,kW f hf n];simp[hf];rw[Nat.succ_mul]
theorem Ar {m:Nat} (f:Nat→List Value) (hf:∀ i,(f i).length=m) {k j:Nat} (hj:j < m):∀ n,k < n→((List.range n).flatMap f)[k*m+j]? =(f k)[j]?
 | 0,h=>absurd h (Nat.not_lt_zero _)
 | n+1,h=>by
  rw[List.range_succ,List.flatMap_append]
  by_cases he:k=n
  ·subst he
   rw[List.getElem?_append_right (by rw[kW f hf];omega),kW f hf,Nat.add_sub_cancel_left]
   simp
  ·have hlt:k < n:=by omega
   have:k*m+j < n*m:=by
    have:(k+1)*m≤n*m:=Nat.mul_le_mul_right _ hlt
    rw[Nat.succ_mul]at this;omega
   rw[List.getElem?_append_left (by rw[kW f hf];exact this)]
   exact Ar f hf hj n hlt
theorem lH (f g:Nat→List Value):∀ n,(∀ i,i < n→f i=g i)→(List.range n).flatMap f=(List.range n).flatMap g
 | 0,_=>rfl
 | n+1,h=>by
  rw[List.range_succ,List.flatMap_append,List.flatMap_append,lH f g n (fun i hi=>h i (by omega))]
  simp[h n (by omega)]
theorem Aq {m:Nat} (f:Nat→List Value) (hf:∀ i,(f i).length=m) {k j:Nat} (hj:j < m) (u:Value):∀ n,k < n→((List.range n).flatMap f).set (k*m+j) u=(List.range n).flatMap fun i=>if i=k then(f i).set j u else f i
 | 0,h=>absurd h (Nat.not_lt_zero _)
 | n+1,h=>by
  rw[List.range_succ,List.flatMap_append,List.flatMap_append]
  by_cases he:k=n
  ·subst he
   rw[List.set_append_right _ _ (by rw[kW f hf];omega),kW f hf,Nat.add_sub_cancel_left]
   congr 1
   ·exact lH _ _ _ (fun i hi=>by rw[if_neg (by omega)])
   ·simp
  ·have hlt:k < n:=by omega
   have:k*m+j < n*m:=by
    have:(k+1)*m≤n*m:=Nat.mul_le_mul_right _ hlt
    rw[Nat.succ_mul]at this;omega
   rw[List.set_append_left _ _ (by rw[kW f hf];exact this),Aq f hf hj u n hlt]
   congr 1
   have he':¬ n=k:=fun e=>he e.symm
   simp[he']
theorem fO {L:List aH} {H:Nat→Bool→Value} {k j:Nat} (hk:k < L.length) (hj:j < 9):(kK L H)[k*9+j]? =(kP (L.getD k aH.zero) (H k false) (H k true))[j]?:=Ar (m:=9) (fun k=>kP (L.getD k aH.zero) (H k false) (H k true)) (fun _=>rfl) hj _ hk
theorem H6 (L:List aH) (H:Nat→Bool→Value) (a:aH):kK (L++[a]) (fun k b=>if k=L.length then .slice none 0 0 else H k b)=kK L H++kP a (.slice none 0 0) (.slice none 0 0):=by
 unfold kK
 rw[List.length_append,List.length_singleton,List.range_succ,List.flatMap_append]
 congr 1
 ·refine lH _ _ _ fun i hi=>?_
  dsimp only
  rw[if_neg (by omega),if_neg (by omega),List.getD_eq_getElem?_getD,List.getD_eq_getElem?_getD,List.getElem?_append_left hi]
 ·simp
theorem Bg {L:List aH} {H H':Nat→Bool→Value} {k j:Nat} {a':aH} {u:Value} (hk:k < L.length) (hj:j < 9) (hH:∀ i,i≠k→∀ b,H' i b=H i b)
  (h:(kP (L.getD k aH.zero) (H k false) (H k true)).set j u=kP a' (H' k false) (H' k true)):(kK L H).set (k*9+j) u=kK (L.set k a') H':=by
 unfold kK
 rw[Aq (m:=9) (fun k=>kP (L.getD k aH.zero) (H k false) (H k true)) (fun _=>rfl) hj u _ hk,List.length_set]
 refine lH _ _ _ fun i hi=>?_
 by_cases he:i=k
 ·subst he
  rw[if_pos rfl,aQ _ _ _ _ hk];exact h
 ·rw[if_neg he,getD_set_ne _ _ _ _ _ (fun e=>he e.symm),hH i he,hH i he]
def NU:Bool→Nat
 | false=>7
 | true=>8
def rC (a:aH) (b:Bool):List (Int×Int):=match b with
 | false=>a.reads
 | true=>a.writes
structure bJ (n₀:Nat) (W:World) (vo vw:Value) (h:HS) (H:Nat→Bool→Value):Prop where
 JZ:h.owned.length=h.out.length
 out:W.ownsRow n₀ 58 9 vo h.out.length (kK h.out H)
 own:W.ownsRow n₀ 3 1 vw h.out.length (h.owned.map (.int .i64))
 rows:∀ k b,k < h.out.length→W.ownsRow n₀ 61 2 (H k b) (rC (h.out.getD k aH.zero) b).length (dw (rC (h.out.getD k aH.zero) b))
 sep:∀ k b k' b' g,k < h.out.length→k' < h.out.length→(k≠k'∨b≠b')→(H k b).ownBlock=some g→(H k' b').ownBlock≠some g
theorem jy {W:World} {n₀ e size:Nat} {v:Value} {n:Nat} {xs:List Value} (h:W.ownsRow n₀ e size v n xs) {n₁ e' size':Nat} {v':Value} {n':Nat} {xs':List Value} (h':W.ownsRow n₁ e' size' v' n' xs') (he:e≠e'):v.ownBlock=none∨v.ownBlock≠v'.ownBlock:=by
 rcases h.2 with⟨rfl,_⟩ | ⟨g,cap,cur,rfl,_,hg,_⟩
 ·exact .inl rfl
 ·right
  intro e1
  rcases h'.2 with⟨rfl,_⟩ | ⟨g',cap',cur',rfl,_,hg',_⟩
  ·simp[Value.ownBlock]at e1
  ·have e2:g=g':=by simpa[Value.ownBlock]using e1
   subst e2
   rw[hg]at hg'
   simp at hg'
   exact he hg'.2
theorem bG {W:World} {n₀ e size:Nat} {v:Value} {n:Nat} {xs:List Value} (h:W.ownsRow n₀ e size v n xs) {b:Nat} {cs:Array Value} {t:TypeId} (hb:aA W b cs t) (he:t≠e):some b≠v.ownBlock:=by
 intro e1
 rcases h.2 with⟨rfl,_⟩ | ⟨g,cap,cur,rfl,_,hg,_⟩
 ·simp[Value.ownBlock]at e1
 ·have e2:b=g:=by simpa[Value.ownBlock]using e1
  subst e2
  unfold aA at hb
  rw[hb]at hg
  simp at hg
  exact he hg.2
theorem aA.grown {W W':World} {b:Nat} {cs:Array Value} {t:TypeId} {row:Option Nat} (h:aA W b cs t) (hg:W.grownBy W' row) (hne:some b≠row):aA W' b cs t:=by
 unfold aA at h⊢
 rw[hg.block b (Array.getElem?_eq_some_iff.1 h).1 hne];exact h
theorem bJ.kept {n₀:Nat} {W W':World} {vo vw:Value} {h:HS} {H:Nat→Bool→Value} (hh:bJ n₀ W vo vw h H) {row:Option Nat} (hg:W.grownBy W' row)
  (h1:vo.ownBlock=none∨vo.ownBlock≠row) (h2:vw.ownBlock=none∨vw.ownBlock≠row) (h3:∀ k b,k < h.out.length→(H k b).ownBlock=none∨(H k b).ownBlock≠row):bJ n₀ W' vo vw h H:=
 ⟨hh.JZ,hh.out.kept hg h1,hh.own.kept hg h2,fun k b hk=>(hh.rows k b hk).kept hg (h3 k b hk),hh.sep⟩
theorem bJ.calm {n₀:Nat} {W W':World} {vo vw:Value} {h:HS} {H:Nat→Bool→Value} (hh:bJ n₀ W vo vw h H) (hg:W.grownBy W' none):bJ n₀ W' vo vw h H:=
 hh.kept hg (by cases vo.ownBlock <;> simp) (by cases vw.ownBlock <;> simp) (fun k b _=>by cases(H k b).ownBlock <;> simp)
theorem bJ.lQ {n₀:Nat} {W:World} {vo vw:Value} {h:HS} {H:Nat→Bool→Value} (hh:bJ n₀ W vo vw h H):bJ n₀ W.drew vo vw h H:=hh.calm ⟨rfl,rfl,rfl,Nat.le_refl _,fun _ _ _=>rfl⟩
theorem bJ.mJ {n₀:Nat} {W W':World} {vo vw:Value} {h:HS} {H:Nat→Bool→Value} (hh:bJ n₀ W vo vw h H) {row:Option Nat} (hg:W.grownBy W' row) (hr:∀ r,row=some r→∃ o:Obj,W.heap[r]? =some o∧o.isCells=false):bJ n₀ W' vo vw h H:=by
 have K:∀ {e size:Nat} {v:Value} {n:Nat} {xs:List Value},W.ownsRow n₀ e size v n xs→v.ownBlock=none∨v.ownBlock≠row:=by
  intro e size v n xs hv
  rcases hv.2 with⟨rfl,_⟩ | ⟨g,cap,cur,rfl,_,hgb,_⟩
  ·exact .inl rfl
  ·refine .inr fun e'=>?_
   obtain⟨o,ho,hc⟩:=hr g (by simpa[Value.ownBlock]using e'.symm)
   rw[hgb]at ho;cases ho;cases hc
 exact hh.kept hg (K hh.out) (K hh.own) (fun k b hk=>K (hh.rows k b hk))
theorem bJ.new (n₀:Nat) (W:World):bJ n₀ W (.slice none 0 0) (.slice none 0 0) nJ (fun _ _=>.slice none 0 0):=
 ⟨rfl,World.ownsRow_nil _ _ _ _,World.ownsRow_nil _ _ _ _,fun k b hk=>absurd hk (Nat.not_lt_zero _),fun k b k' b' g hk=>absurd hk (Nat.not_lt_zero _)⟩
def KO (n₀:Nat) (W W':World):Prop:=KeepsOthers W W'∧Below n₀ W W'
theorem KO.refl (n₀:Nat) (W:World):KO n₀ W W:=⟨KeepsOthers.refl _,Below.refl _ _⟩
theorem KO.alloc {n₀:Nat} {A W:World} (h:KO n₀ A W) (hn:n₀≤A.heap.size) (o:Obj):KO n₀ A (W.alloc o):=⟨h.1.trans (KeepsOthers.alloc _ _),h.2.alloc (Nat.le_trans hn h.2.size) _⟩
theorem KO.drew {n₀:Nat} {A W:World} (h:KO n₀ A W):KO n₀ A W.drew:=⟨⟨h.1.size,h.1.same⟩,h.2.drew⟩
theorem KO.set {n₀:Nat} {A W:World} (h:KO n₀ A W) {b o:Nat} (hb:n₀≤b) (v:Value):KO n₀ A (W.setCell ⟨b,o,none⟩ v):=⟨h.1.trans (KeepsOthers.setCell _ _ _),h.2.setCell (p:=⟨b,o,none⟩) hb v⟩
theorem KO.grow {n₀:Nat} {A W W':World} (h:KO n₀ A W) (hn:n₀≤A.heap.size) {e size n:Nat} {v:Value} {xs:List Value} (hown:W.ownsRow n₀ e size v n xs) (hg:W.grownBy W' v.ownBlock):KO n₀ A W':=by
 refine⟨h.1.trans (KeepsOthers.of_grownBy hg fun j o ej hj=>?_),h.2.grown hg (Nat.le_trans hn h.2.size) fun j ej=>?_⟩
 ·rcases hown.2 with⟨rfl,_⟩ | ⟨g,cap,cur,rfl,_,hgb,_⟩
  ·simp[Value.ownBlock]at ej
  ·obtain rfl:g=j:=by simpa[Value.ownBlock]using ej
   rw[hgb]at hj;cases hj;rfl
 ·rcases hown.2 with⟨rfl,_⟩ | ⟨g,cap,cur,rfl,hb,_,_⟩
  ·simp[Value.ownBlock]at ej
  ·obtain rfl:g=j:=by simpa[Value.ownBlock]using ej
   exact hb
theorem grownBy_set (W:World) (b o:Nat) (v:Value):W.grownBy (W.setCell ⟨b,o,none⟩ v) (some b):=
 ⟨rfl,rfl,rfl,(KeepsWalks.setCell W _ v).size,fun k _ hk=>Below.heap_setCell _ _ _ k (fun e=>hk (by rw[e]))⟩
theorem aA.grow {n₀:Nat} {W W':World} {b:Nat} {cs:Array Value} {t:TypeId} (h:aA W b cs t) {e size n:Nat} {v:Value} {xs:List Value} (hown:W.ownsRow n₀ e size v n xs) (hg:W.grownBy W' v.ownBlock) (he:t≠e):aA W' b cs t:=h.grown hg (bG hown h he)
theorem xJ {n₀:Nat} {W:World} {e size n:Nat} {v:Value} {xs:List Value} (hown:W.ownsRow n₀ e size v n xs) {b:Nat} {cs:Array Value} {t:TypeId} (h:aA W b cs t) (he:t≠e) (o:Nat) (u:Value):(W.setCell ⟨b,o,none⟩ u).ownsRow n₀ e size v n xs:=hown.kept (grownBy_set W b o u) (.inr fun x=>bG hown h he x.symm)
theorem qY {n₀:Nat} {W W':World} {e size n:Nat} {v:Value} {xs:List Value} (hown:W.ownsRow n₀ e size v n xs) {e' size' n':Nat} {v':Value} {xs':List Value} (hown':W.ownsRow n₀ e' size' v' n' xs') (hg:W.grownBy W' v'.ownBlock) (he:e≠e'):W'.ownsRow n₀ e size v n xs:=hown.kept hg (jy hown hown' he)
theorem bJ.as {n₀:Nat} {W:World} {vo vw:Value} {h h':HS} {H:Nat→Bool→Value} (hh:bJ n₀ W vo vw h H) (h1:h.out=h'.out) (h2:h.owned=h'.owned):bJ n₀ W vo vw h' H:=
 ⟨by rw[←h1,←h2];exact hh.JZ,by rw[←h1];exact hh.out,by rw[←h1,←h2];exact hh.own,by rw[←h1];exact hh.rows,by rw[←h1];exact hh.sep⟩
theorem bg {α:Type} {l:List α} {k:Nat} {x:α} (h:l[k]? =some x):l.set k x=l:=by
 obtain⟨hk,rfl⟩:=List.getElem?_eq_some_iff.1 h
 exact List.set_getElem_self hk
theorem wC {W:World} {n₀ e size n:Nat} {v:Value} {xs:List Value} (h:W.ownsRow n₀ e size v n xs) (hn:0 < n):∃ g c,v=.slice (some ⟨g,0,none⟩) n c∧n₀≤g∧g < W.heap.size:=by
 rcases h.2 with⟨_,h0⟩ | ⟨g,cap,cur,rfl,hb,hg,_⟩
 ·omega
 ·exact⟨g,cap,rfl,hb,(Array.getElem?_eq_some_iff.1 hg).1⟩
theorem bJ.begun {n₀:Nat} {W W2:World} {vo vw E8 Xn:Value} {h:HS} {H:Nat→Bool→Value} (hh:bJ n₀ W vo vw h H) {e:Ev} {i:Int} (k1:e.kind=1)
  (ho:W2.ownsRow n₀ 58 9 E8 (h.out.length+1) (kK h.out H++kP (kY e i) (.slice none 0 0) (.slice none 0 0)))
  (hw:W2.ownsRow n₀ 3 1 Xn (h.out.length+1) (h.owned.map (.int .i64)++[.int .i64 0]))
  (hp:∀ v n xs,W.ownsRow n₀ 61 2 v n xs→W2.ownsRow n₀ 61 2 v n xs):
  bJ n₀ W2 E8 Xn (dS h i e) (fun k b=>if k=h.out.length then .slice none 0 0 else H k b):=by
 have hs:dS h i e=⟨oW h.last e.th h.out.length,h.out++[kY e i],h.owned++[0]⟩:=by unfold dS;rw[if_pos k1]
 rw[hs]
 refine⟨by simp[hh.JZ],?_,?_,fun k b hk=>?_,fun k b k' b' g hk hk' hne hb=>?_⟩
 ·show W2.ownsRow n₀ _ 9 E8 (h.out++[kY e i]).length (kK (h.out++[kY e i]) _)
  rw[H6,List.length_append,List.length_singleton]
  exact ho
 ·show W2.ownsRow n₀ _ 1 Xn (h.out++[kY e i]).length ((h.owned++[0]).map _)
  rw[List.length_append,List.length_singleton,List.map_append]
  exact hw
 ·have hk':k < h.out.length+1:=by simpa using hk
  show W2.ownsRow n₀ _ 2 (if k=h.out.length then _ else H k b) (rC ((h.out++[kY e i]).getD k aH.zero) b).length _
  by_cases he:k=h.out.length
  ·subst he
   rw[if_pos rfl]
   have:(h.out++[kY e i]).getD h.out.length aH.zero=kY e i:=by simp[List.getD_eq_getElem?_getD]
   rw[this]
   cases b <;> exact World.ownsRow_nil _ _ _ _
  ·have hlt:k < h.out.length:=by omega
   rw[if_neg he]
   have:(h.out++[kY e i]).getD k aH.zero=h.out.getD k aH.zero:=by rw[List.getD_eq_getElem?_getD,List.getElem?_append_left hlt,←List.getD_eq_getElem?_getD]
   rw[this]
   exact hp _ _ _ (hh.rows k b hlt)
 ·have e1:k < h.out.length+1:=by simpa using hk
  have e2:k' < h.out.length+1:=by simpa using hk'
  by_cases he:k=h.out.length
  ·rw[if_pos he]at hb;simp[Value.ownBlock]at hb
  ·rw[if_neg he]at hb
   by_cases he':k'=h.out.length
   ·rw[if_pos he'];simp[Value.ownBlock]
   ·rw[if_neg he']
    exact hh.sep k b k' b' g (by omega) (by omega) hne hb
theorem bJ.field {n₀:Nat} {W:World} {g cap:Nat} {vw:Value} {h:HS} {H:Nat→Bool→Value} (hh:bJ n₀ W (.slice (some ⟨g,0,none⟩) h.out.length cap) vw h H) {k j:Nat} {a':aH} {u:Value} (hk:k < h.out.length) (hj:j < 9)
  (hu:(kP (h.out.getD k aH.zero) (H k false) (H k true)).set j u=kP a' (H k false) (H k true)) (hp:∀ b,rC a' b=rC (h.out.getD k aH.zero) b):
  bJ n₀ (W.setCell ⟨g,k*9+j,none⟩ u) (.slice (some ⟨g,0,none⟩) h.out.length cap) vw ⟨h.last,h.out.set k a',h.owned⟩ H∧W.grownBy (W.setCell ⟨g,k*9+j,none⟩ u) (some g):=by
 obtain⟨h1,h2⟩:=hh.out.stored (k*9+j) u
 rw[Bg hk hj (H':=H) (fun _ _ _=>rfl) hu]at h1
 refine⟨⟨by rw[List.length_set];exact hh.JZ,by rw[List.length_set];exact h1,?_,fun i b hi=>?_,fun i b i' b' q hi hi'=>hh.sep i b i' b' q (by simpa using hi) (by simpa using hi')⟩,h2⟩
 ·rw[List.length_set];exact hh.own.kept h2 (jy hh.own hh.out (by decide))
 ·have hi':i < h.out.length:=by simpa using hi
  have:rC ((h.out.set k a').getD i aH.zero) b=rC (h.out.getD i aH.zero) b:=by
   by_cases he:k=i
   ·subst he;rw[aQ _ _ _ _ hk,hp b]
   ·rw[getD_set_ne _ _ _ _ _ he]
  show(W.setCell ⟨g,k*9+j,none⟩ u).ownsRow n₀ _ 2 (H i b) (rC ((h.out.set k a').getD i aH.zero) b).length (dw (rC ((h.out.set k a').getD i aH.zero) b))
  rw[this]
  exact(hh.rows i b hi').kept h2 (jy (hh.rows i b hi') hh.out (by decide))
theorem bJ.count {n₀:Nat} {W:World} {g cap:Nat} {vo:Value} {h:HS} {H:Nat→Bool→Value} (hh:bJ n₀ W vo (.slice (some ⟨g,0,none⟩) h.out.length cap) h H) {k:Nat} (o:Int):
  bJ n₀ (W.setCell ⟨g,k,none⟩ (.int .i64 o)) vo (.slice (some ⟨g,0,none⟩) h.out.length cap) ⟨h.last,h.out,h.owned.set k o⟩ H∧W.grownBy (W.setCell ⟨g,k,none⟩ (.int .i64 o)) (some g):=by
 obtain⟨h1,h2⟩:=hh.own.stored k (.int .i64 o)
 rw[←List.map_set]at h1
 exact⟨⟨by rw[List.length_set];exact hh.JZ,hh.out.kept h2 (jy hh.out hh.own (by decide)),h1,fun i b hi=>(hh.rows i b hi).kept h2 (jy (hh.rows i b hi) hh.own (by decide)),hh.sep⟩,h2⟩
theorem bJ.pair {n₀:Nat} {W W1:World} {g cap:Nat} {vw v':Value} {h:HS} {H:Nat→Bool→Value} (hh:bJ n₀ W (.slice (some ⟨g,0,none⟩) h.out.length cap) vw h H) {k:Nat} {b:Bool} {p:Int×Int} {a':aH} (hk:k < h.out.length)
  (ho:W1.ownsRow n₀ 61 2 v' ((rC (h.out.getD k aH.zero) b).length+1) (dw (rC (h.out.getD k aH.zero) b)++[.int .i64 p.1,.int .i64 p.2])) (hg:W.grownBy W1 (H k b).ownBlock) (hb:v'.ownBlock=(H k b).ownBlock∨∃ q,v'.ownBlock=some q∧W.heap.size≤q)
  (ha:(kP (h.out.getD k aH.zero) (H k false) (H k true)).set (NU b) v'=kP a' (if b then H k false else v') (if b then v' else H k true)) (hp:rC a' b=rC (h.out.getD k aH.zero) b++[p]) (hp':rC a' (!b)=rC (h.out.getD k aH.zero) (!b)):
  bJ n₀ (W1.setCell ⟨g,k*9+NU b,none⟩ v') (.slice (some ⟨g,0,none⟩) h.out.length cap) vw ⟨h.last,h.out.set k a',h.owned⟩ (fun i c=>if i=k∧c=b then v' else H i c)∧W1.grownBy (W1.setCell ⟨g,k*9+NU b,none⟩ v') (some g):=by
 have hout1:=hh.out.kept hg (jy hh.out (hh.rows k b hk) (by decide))
 have hown1:=hh.own.kept hg (jy hh.own (hh.rows k b hk) (by decide))
 obtain⟨h1,h2⟩:=hout1.stored (k*9+NU b) v'
 have hfresh:∀ i c,i < h.out.length→(i≠k∨c≠b)→(H i c).ownBlock=none∨(H i c).ownBlock≠(H k b).ownBlock:=by
  intro i c hi hne
  cases hx:(H i c).ownBlock with
  | none=>exact .inl rfl
  | some q=>exact .inr (fun e=>hh.sep i c k b q hi hk hne hx e.symm)
 have hlow:∀ i c q,i < h.out.length→(H i c).ownBlock=some q→q < W.heap.size:=fun i c q hi hq=>((hh.rows i c hi).lt q hq).2
 rw[Bg (H':=fun i c=>if i=k∧c=b then v' else H i c) (a':=a') hk (by cases b <;> decide) (fun i hi c=>by simp[hi]) (by rw[ha];cases b <;> simp)]at h1
 refine⟨⟨by rw[List.length_set];exact hh.JZ,by rw[List.length_set];exact h1,?_,fun i c hi=>?_,fun i c i' c' q hi hi' hne hq=>?_⟩,h2⟩
 ·rw[List.length_set];exact hown1.kept h2 (jy hown1 hout1 (by decide))
 ·have hi':i < h.out.length:=by simpa using hi
  show(W1.setCell ⟨g,k*9+NU b,none⟩ v').ownsRow n₀ _ 2 (if i=k∧c=b then v' else H i c) (rC ((h.out.set k a').getD i aH.zero) c).length (dw (rC ((h.out.set k a').getD i aH.zero) c))
  by_cases he:i=k
  ·subst he
   rw[aQ _ _ _ _ hk]
   by_cases hc:c=b
   ·subst hc
    rw[if_pos ⟨rfl,rfl⟩,hp,rD,List.length_append,List.length_singleton]
    exact ho.kept h2 (jy ho hout1 (by decide))
   ·rw[if_neg (fun e=>hc e.2)]
    have hcb:c=!b:=by cases b <;> cases c <;> simp_all
    rw[hcb,hp',←hcb]
    have:=(hh.rows i c hk).kept hg (hfresh i c hk (.inr hc))
    exact this.kept h2 (jy this hout1 (by decide))
  ·rw[if_neg (fun e=>he e.1),getD_set_ne _ _ _ _ _ (fun e=>he e.symm)]
   have:=(hh.rows i c hi').kept hg (hfresh i c hi' (.inl he))
   exact this.kept h2 (jy this hout1 (by decide))
 ·have hi1:i < h.out.length:=by simpa using hi
  have hi2:i' < h.out.length:=by simpa using hi'
  by_cases e1:i=k∧c=b
  ·rw[if_pos e1]at hq
   have e2:¬ (i'=k∧c'=b):=by rintro⟨x1,x2⟩;rcases hne with h | h;exact h (e1.1.trans x1.symm);exact h (e1.2.trans x2.symm)
   rw[if_neg e2]
   rcases hb with hb | ⟨q',hb,hq'⟩
   ·rw[hb]at hq
    exact hh.sep k b i' c' q hk hi2 (by rcases hne with h | h;exact .inl (by rw[←e1.1];exact h);exact .inr (by rw[←e1.2];exact h)) hq
   ·rw[hb]at hq
    cases hq
    intro e3
    have:=hlow i' c' _ hi2 e3
    omega
  ·rw[if_neg e1]at hq
   by_cases e2:i'=k∧c'=b
   ·rw[if_pos e2]
    intro e3
    rcases hb with hb | ⟨q',hb,hq'⟩
    ·rw[hb]at e3
     exact hh.sep i c k b q hi1 hk (by rcases hne with h | h;exact .inl (by rw[←e2.1];exact h);exact .inr (by rw[←e2.2];exact h)) hq e3
    ·rw[hb]at e3
     cases e3
     have:=hlow i c _ hi1 hq
     omega
   ·rw[if_neg e2]
    exact hh.sep i c i' c' q hi1 hi2 hne hq
end Go.Proofs.YtcddlnmcjmhbcaaDoor
-- short
