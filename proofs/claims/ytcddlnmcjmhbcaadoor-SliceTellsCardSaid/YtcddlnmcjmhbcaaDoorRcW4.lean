/-
  Walks of the document's checker: Over, Left, Commits.
-/
import Derived.Test.YtcddlnmcjmhbcaaDoorRcW3
namespace Go.Proofs.YtcddlnmcjmhbcaaDoor
set_option linter.unusedVariables false
set_option linter.unusedSimpArgs false
open Go Go.RowKit
theorem jF.shape {w:World} {b:Nat} {a:AtR} {vL vr vl vf vs:Value} (h:jF w b a vL vr vl vf vs):∃ pL cL pr cr pl cl pf cf ps cs,vL=.slice pL a.L.length cL∧vr=.slice pr a.read.length cr∧vl=.slice pl a.locked.length cl∧vf=.slice pf a.freed.length cf∧vs=.slice ps a.stored.length cs:=by
 obtain⟨pL,cL,e1⟩:=h.rL.shape
 obtain⟨pr,cr,e2⟩:=h.rr.shape
 obtain⟨pl,cl,e3⟩:=h.rl.shape
 obtain⟨pf,cf,e4⟩:=h.rf.shape
 obtain⟨ps,cs,e5⟩:=h.rs.shape
 exact⟨pL,cL,pr,cr,pl,cl,pf,cf,ps,cs,e1,e2,e3,e4,e5⟩
set_option maxRecDepth 100000 in
set_option maxHeartbeats 4000000 in
theorem uO (a:AtR) (pL pr pl pf ps:Option Addr) (cL cr cl cf cs:Nat) (w:World):
  Calls Tryd.prog 56 #[.agg (kS a (.slice pL a.L.length cL) (.slice pr a.read.length cr) (.slice pl a.locked.length cl) (.slice pf a.freed.length cf) (.slice ps a.stored.length cs))] w fun e w'=>e=.returned (.bool (dQ a))∧Below w.heap.size w w':=by
 have HB:Hid (Below w.heap.size w (w.alloc (.cells (kS a (.slice pL a.L.length cL) (.slice pr a.read.length cr) (.slice pl a.locked.length cl) (.slice pf a.freed.length cf) (.slice ps a.stored.length cs)) 95))):=hid (ah (af _) _)
 have hq:=aA.new w (kS a (.slice pL a.L.length cL) (.slice pr a.read.length cr) (.slice pl a.locked.length cl) (.slice pf a.freed.length cf) (.slice ps a.stored.length cs)) 95
 have c4:=hq.cell 4 (v:=.slice pl a.locked.length cl) rfl
 have c5:=hq.cell 5 (v:=.slice pf a.freed.length cf) rfl
 have c9:=hq.cell 9 (v:=.int .u8 a.last) rfl
 have HO:Hid (dQ a=if a.last=0∨a.last=13 then true else if a.last=7∨a.last=10 then decide (a.locked.length=0)else if a.last=9∨a.last=11 then decide (a.freed.length=a.locked.length)else false):=hid rfl
 have HZ:Hid ((((a.locked.length:Nat):Int)==0)=decide (a.locked=[])):=hid (by rw[Bool.eq_iff_iff];simp)
 have LG:Hid ((((a.freed.length:Nat):Int)==((a.locked.length:Nat):Int))=decide (a.freed.length=a.locked.length)):=hid (by rw[Bool.eq_iff_iff];simp;omega)
 clear hq
 unfold kS at*
 generalize a.last=la at*
 go_enter Tryd.func56,Tryd.ntmps56
 by_cases h0:la=0
 ·subst h0
  go_wp2_with fail
  go_ret
  exact⟨by rw[HO.out];rfl,HB.out⟩
 by_cases h13:la=13
 ·subst h13
  go_wp2_with fail
  go_ret
  exact⟨by rw[HO.out];rfl,HB.out⟩
 by_cases h7:la=7
 ·subst h7
  go_wp2_with fail
  go_ret
  exact⟨by rw[HO.out];simp[HZ.out],HB.out⟩
 by_cases h9:la=9
 ·subst h9
  go_wp2_with fail
  go_ret
  exact⟨by rw[HO.out];simp[←LG.out],HB.out⟩
 by_cases h11:la=11
 ·subst h11
  go_wp2_with fail
  go_ret
  exact⟨by rw[HO.out];simp[←LG.out],HB.out⟩
 by_cases h10:la=10
 ·subst h10
  go_wp2_with fail
  go_ret
  exact⟨by rw[HO.out];simp[HZ.out],HB.out⟩
 have m0:(la==0)=false:=by simpa using h0
 have m13:(la==13)=false:=by simpa using h13
 have m7:(la==7)=false:=by simpa using h7
 have m9:(la==9)=false:=by simpa using h9
 have m11:(la==11)=false:=by simpa using h11
 have m10:(la==10)=false:=by simpa using h10
 go_wp2_with fail
 go_ret
 exact⟨by rw[HO.out];simp[h0,h13,h7,h9,h11,h10],HB.out⟩
set_option maxRecDepth 100000 in
set_option maxHeartbeats 4000000 in
theorem yJ (a:AtR) (pL pr pl pf ps:Option Addr) (cL cr cl cf cs:Nat) (w:World) (hb:-9223372036854775808≤a.rv∧a.rv≤1099511627776) (hc:a.checked≤a.read.length) (hl:a.read.length≤1048576) (hr:U2 w a.read (.slice pr a.read.length cr)):
  Calls Tryd.prog 62 #[.agg (kS a (.slice pL a.L.length cL) (.slice pr a.read.length cr) (.slice pl a.locked.length cl) (.slice pf a.freed.length cf) (.slice ps a.stored.length cs))] w fun e w'=>∃ p c,e=.returned (.slice p (leftA a).length c)∧Below w.heap.size w w'∧(leftA a≠[]→∃ b o,p=some ⟨b,o,none⟩∧∀ x,(leftA a).head? =some x→w'.cell? ⟨b,o,none⟩=some (.int .i64 x)):=by
 obtain⟨a',cap,he,hcap,h0,h1⟩:=hr
 cases he
 have HB:Hid (Below w.heap.size w (w.alloc (.cells (kS a (.slice pL a.L.length cL) (.slice pr a.read.length cr) (.slice pl a.locked.length cl) (.slice pf a.freed.length cf) (.slice ps a.stored.length cs)) 95))):=hid (ah (af _) _)
 have hq:=aA.new w (kS a (.slice pL a.L.length cL) (.slice pr a.read.length cr) (.slice pl a.locked.length cl) (.slice pf a.freed.length cf) (.slice ps a.stored.length cs)) 95
 have c1:=hq.cell 1 (v:=.int .i64 a.rv) rfl
 have c2:=hq.cell 2 (v:=.int .i64 a.wv) rfl
 have c3:=hq.cell 3 (v:=.slice pr a.read.length cr) rfl
 have c6:=hq.cell 6 (v:=.int .i64 a.checked) rfl
 have jw:IntKind.i64.wrap (a.rv+1)=a.rv+1:=IntWalk.i64_in _ (by omega)
 clear hq
 unfold kS at*
 by_cases hw:a.wv=a.rv+1
 ·have WM:Hid (leftA a=[]):=hid (by unfold leftA;rw[if_pos hw])
  have j0:(a.wv==a.rv+1)=true:=by simpa using hw
  clear hw
  go_enter Tryd.func62,Tryd.ntmps62
  go_wp2_with fail
  go_ret
  rw[WM.out]
  exact⟨none,0,rfl,HB.out,fun h=>absurd rfl h⟩
 ·have WM:Hid (leftA a=a.read.drop a.checked):=hid (by unfold leftA;rw[if_neg hw])
  have j0:(a.wv==a.rv+1)=false:=by simpa using hw
  clear hw
  by_cases hn:a.read=[]
  ·have hc0:a.checked=0:=by rw[hn]at hc;simpa using hc
   have:=h0 hn
   have hl0:a.read.length=0:=by rw[hn];rfl
   rw[this,hc0]at*
   have HLE:Hid (leftA a=[]):=hid (by rw[WM.out,hn];simp)
   clear h1 h0 hl hc hcap hn
   go_enter Tryd.func62,Tryd.ntmps62
   go_wp2_with fail
   go_ret
   rw[HLE.out]
   exact⟨none,⟨0,rfl⟩,ah (af _) _,fun h=>absurd rfl h⟩
  ·obtain⟨b,o,rfl,h2⟩:=h1 hn
   have H2:=hid h2
   have HC:=hid hc
   have mV:Hid ((leftA a).length=a.read.length-a.checked):=hid (by rw[WM.out,List.length_drop])
   have HD:Hid (∀ x,(leftA a).head? =some x→∃ h:a.checked < a.read.length,x=a.read[a.checked]):=hid (fun x hx=>by
    rw[WM.out,List.head?_drop]at hx
    obtain⟨h,he⟩:=List.getElem?_eq_some_iff.1 hx
    exact⟨h,he.symm⟩)
   have j2:(0:Int)≤(a.checked:Int):=by omega
   have j3:(a.checked:Int)≤(a.read.length:Int):=by omega
   have j4:(a.read.length:Int)≤(cr:Int):=by omega
   have j5:(a.checked:Int)≤(cr:Int):=by omega
   clear h1 h0 h2 hn hc
   by_cases hck:cr=a.checked
   ·subst hck
    go_enter Tryd.func62,Tryd.ntmps62
    go_wp2_with fail
    go_ret
    refine⟨some ⟨b,o,none⟩,0,by rw[mV.out,show a.read.length-a.checked=0 by omega];rfl,HB.out,fun _=>⟨_,_,rfl,fun x hx=>?_⟩⟩
    obtain⟨h,-⟩:=HD.out x hx
    omega
   ·go_enter Tryd.func62,Tryd.ntmps62
    go_wp2_with fail
    go_ret
    refine⟨some ⟨b,o+a.checked,none⟩,cr-a.checked,by rw[mV.out];rfl,HB.out,fun _=>⟨_,_,rfl,fun x hx=>?_⟩⟩
    obtain⟨h,rfl⟩:=HD.out x hx
    exact later HB.out (H2.out a.checked h)
set_option maxRecDepth 100000 in
set_option maxHeartbeats 4000000 in
theorem Ep (a:Option Addr) (l:List Ev) (n cap:Nat) (th S:Int) (w:World) (hE:cO w a l) (hn:l.length=n) (hl:n≤1048576) (hcap:n≤cap) (hS:1≤S∧S≤32) (hat:∀ e∈l,0≤e.at_):
  Calls Tryd.prog 57 #[.slice a n cap,.int .i64 th,.int .i64 S] w fun e w'=>e=.returned (.int .i64 (og S th l.reverse))∧Below w.heap.size w w':=by
 subst hn
 have HE:=hid hE
 have HL:=hid hl
 have UJ:=hid hcap
 have RG:=hid (fun(W:World) (hW:Below w.heap.size w W) (k:Nat) (hk:k≤l.length)=>D7 a (l.take k) k cap th S W ((hE.below hW).take k) (by simp;omega) (by omega) hS (fun e he=>hat e (List.mem_of_mem_take he)))
 have XR:Hid (∀ k,k≤l.length→0≤og S th (l.take k).reverse∧og S th (l.take k).reverse≤k):=hid (fun k hk=>by
  have key:∀ r:List Ev,0≤og S th r∧og S th r≤r.length:=by
   intro r
   induction r with
   | nil=>simp[og]
   | cons e r ih=>rw[sU];simp only[List.length_cons];split <;> omega
  have:=key (l.take k).reverse
  simp at this⊢
  omega)
 clear hE hl hcap hS hat
 go_enter Tryd.func57,Tryd.ntmps57
 go_wp2_with fail
 go_loopw [7,8] (fun c i wr=>∃ k:Nat,k≤l.length∧i=.int .i64 (k:Int)∧c=.int .i64 (og S th (l.take k).reverse)∧Hid (Below w.heap.size w wr)) (fun _ i _=>l.length-(intOf i).toNat)
 case atStart=>exact⟨0,Nat.zero_le _,rfl,rfl,hid (af _)⟩
 case round=>
  obtain⟨k,hk,rfl,rfl,HB⟩:=hrel
  by_cases hlt:k < l.length
  ·have HT:=hid (pG hlt)
   obtain⟨b,o,rfl,hcell⟩:=HE.out.2 (by intro h;rw[h]at hlt;simp at hlt)
   rcases iG:l[k]with⟨kind,iW,tx,at_,v,x,why⟩
   rw[iG]at HT
   obtain⟨e0,e1,-,-,-,-,-⟩:=cO.seven hcell HB.out hlt iG
   have j1:decide ((k:Int) < (l.length:Int))=true:=by rw[decide_eq_true_iff];omega
   have j2:(0:Int)≤(k:Int):=by omega
   have j3:IntKind.i64.wrap ((k:Int)+1)=(k:Int)+1:=IntWalk.i64_in _ (by have:=HL.out;omega)
   have j4:decide (k < l.length)=true:=by rw[decide_eq_true_iff];omega
   have j5:(k:Int)+1≤(cap:Int):=by have:=UJ.out;omega
   have j6:(0:Int)≤(k:Int)+1:=by omega
   have j7:IntKind.i64.wrap (og S th (l.take k).reverse+1)=og S th (l.take k).reverse+1:=IntWalk.i64_in _ (by have:=XR.out k hk;have:=HL.out;omega)
   have HC:Hid (og S th (l.take (k+1)).reverse=og S th (l.take k).reverse+if iW=th∧(kind=7∨kind=9)∧dQ (bC S th (l.take (k+1)).reverse)=true then 1 else 0):=hid (by rw[HT.out,sU])
   have bf:=hid hlt
   clear hcell iG hlt hk
   obtain⟨cv,hcv⟩:∃ cv,cv=og S th (l.take k).reverse:=⟨_,rfl⟩
   rw[←hcv]at HC j7⊢
   clear hcv
   by_cases hth:iW=th
   case neg=>
    have n1:(iW !=th)=true:=by simpa using hth
    go_wp2_with fail
    go_roundw
    case rel=>exact⟨k+1,bf.out,by go_num,by rw[HC.out,if_neg (fun h=>hth h.1),Int.add_zero],HB⟩
    case measure=>simp[intOf];have:=bf.out;omega
   subst hth
   by_cases Qd:kind=7∨kind=9
   case neg=>
    have n1:(kind !=7)=true:=by simpa using(fun h=>Qd (Or.inl h))
    have n2:(kind !=9)=true:=by simpa using(fun h=>Qd (Or.inr h))
    go_wp2_with fail
    go_roundw
    case rel=>exact⟨k+1,bf.out,by go_num,by rw[HC.out,if_neg (fun h=>Qd h.2.1),Int.add_zero],HB⟩
    case measure=>simp[intOf];have:=bf.out;omega
   rcases Qd with rfl | rfl
   ·have UD:Hid (k+1≤l.length):=bf
    go_wp2_with fail
    refine(RG.out _ HB.out (k+1) UD.out).mono ?_
    rintro e' w1 ⟨vL,vr,vl,vf,vs,rfl,hb1,hr1⟩
    obtain⟨pL,cL,pr,cr,pl,cl,pf,cf,ps,cs,rfl,rfl,rfl,rfl,rfl⟩:=hr1.shape
    have HB1:=hid (ag HB.out hb1)
    clear hb1 hr1
    go_wp2_with fail
    refine(uO (bC S iW (l.take (k+1)).reverse) pL pr pl pf ps cL cr cl cf cs _).mono ?_
    rintro e' w2 ⟨rfl,hb2⟩
    have HB2:=hid (ag HB1.out hb2)
    clear hb2
    obtain⟨q,hq⟩:∃ q,dQ (bC S iW (l.take (k+1)).reverse)=q:=⟨_,rfl⟩
    rw[hq]at HC⊢
    clear hq
    cases q
    ·go_wp2_with fail
     go_roundw
     case rel=>exact⟨k+1,bf.out,by go_num,by rw[HC.out,if_neg (fun h=>by cases h.2.2),Int.add_zero],HB2⟩
     case measure=>simp[intOf];have:=bf.out;omega
    ·go_wp2_with fail
     go_roundw
     case rel=>exact⟨k+1,bf.out,by go_num,by rw[HC.out,if_pos (by simp)],HB2⟩
     case measure=>simp[intOf];have:=bf.out;omega
   ·have UD:Hid (k+1≤l.length):=bf
    go_wp2_with fail
    refine(RG.out _ HB.out (k+1) UD.out).mono ?_
    rintro e' w1 ⟨vL,vr,vl,vf,vs,rfl,hb1,hr1⟩
    obtain⟨pL,cL,pr,cr,pl,cl,pf,cf,ps,cs,rfl,rfl,rfl,rfl,rfl⟩:=hr1.shape
    have HB1:=hid (ag HB.out hb1)
    clear hb1 hr1
    go_wp2_with fail
    refine(uO (bC S iW (l.take (k+1)).reverse) pL pr pl pf ps cL cr cl cf cs _).mono ?_
    rintro e' w2 ⟨rfl,hb2⟩
    have HB2:=hid (ag HB1.out hb2)
    clear hb2
    obtain⟨q,hq⟩:∃ q,dQ (bC S iW (l.take (k+1)).reverse)=q:=⟨_,rfl⟩
    rw[hq]at HC⊢
    clear hq
    cases q
    ·go_wp2_with fail
     go_roundw
     case rel=>exact⟨k+1,bf.out,by go_num,by rw[HC.out,if_neg (fun h=>by cases h.2.2),Int.add_zero],HB2⟩
     case measure=>simp[intOf];have:=bf.out;omega
    ·go_wp2_with fail
     go_roundw
     case rel=>exact⟨k+1,bf.out,by go_num,by rw[HC.out,if_pos (by simp)],HB2⟩
     case measure=>simp[intOf];have:=bf.out;omega
  ·obtain rfl:k=l.length:=by omega
   have j1:decide ((l.length:Int) < (l.length:Int))=false:=by rw[decide_eq_false_iff_not];omega
   go_wp2_with fail
   go_ret
   exact⟨by rw[jv];rfl,HB.out⟩
end Go.Proofs.YtcddlnmcjmhbcaaDoor
-- short
