/-
  The checker; walks: ends, leave, Commit, Store.
-/
import Derived.Test.YtcddlnmcjmhbcaaDoorShC3
import Derived.IntWalk
import Derived.Laws.ShiftsVarLaws
namespace Go.Proofs.YtcddlnmcjmhbcaaDoor
set_option linter.unusedVariables false
open Go Go.RowKit
section
variable {w:World} {c tb sb:Nat} {s:Sh} {ev:Nat}
set_option maxRecDepth 100000 in
set_option maxHeartbeats 4000000 in
theorem En (b o:Nat) (n m:Int) (w:World) (h0:w.cell? ⟨b,o,none⟩=some (.int .i64 m)) (h1:w.cell? ⟨b,o+1,none⟩=some (.int .i64 n)) (hn:0≤n∧n≤1000000000) (f0:w.frozen? ⟨b,o,none⟩=false) (f1:w.frozen? ⟨b,o+1,none⟩=false):
  Calls Tryd.prog 84 #[.pointer (some ⟨b,o,none⟩)] w fun e w'=>e=.returned (.tuple #[])∧w'=(w.setCell ⟨b,o,none⟩ (.int .i64 0)).setCell ⟨b,o+1,none⟩ (.int .i64 (n+1)):=by
 have a1:=hn.1
 have a2:=hn.2
 clear hn
 go_enter Tryd.func84,Tryd.ntmps84
 go_wp2_with fail
 go_end0
 exact⟨rfl,rfl⟩
set_option maxRecDepth 100000 in
set_option maxHeartbeats 4000000 in
theorem AO (h:fK w c tb sb s ev) (i:Nat) (hi:i < s.aN.length) {t:Th} (he:s.aN.getD i Th.zero=t) (hm:t.owned < 4294967296) (a:Nat) (ha:a < s.aX.length) (ha32:a < 32):
  Calls Tryd.prog 85 #[.pointer (some ⟨c,0,none⟩),.pointer (some ⟨tb,i*13,none⟩),.int .i64 (a:Int)] w fun e w'=>e=.returned (.tuple #[])∧w'=((w.setCell ⟨tb,i*13+7,none⟩ (.int .u32 ((fV t.owned a:Nat):Int))).setCell ⟨sb,a*2,none⟩ (.int .i64 (-1))).drew:=by
 obtain⟨c0,c1,c2,c3,c4⟩:=h.cells
 obtain⟨t0,t1,t2,t3,t4,t5,t6,t7,t8,t9,t10,t11,t12⟩:=h.t hi he
 have f1:w.frozen? ⟨c,1,none⟩=false:=h.ck.free 1
 have zk:w.frozen? ⟨tb,i*13,none⟩=false:=h.th.free _
 have zi:w.frozen? ⟨tb,i*13+3,none⟩=false:=h.th.free _
 have zh:w.frozen? ⟨tb,i*13+4,none⟩=false:=h.th.free _
 have zg:w.frozen? ⟨tb,i*13+5,none⟩=false:=h.th.free _
 have zf:w.frozen? ⟨tb,i*13+6,none⟩=false:=h.th.free _
 have yZ:w.frozen? ⟨tb,i*13+7,none⟩=false:=h.th.free _
 have yY:w.frozen? ⟨tb,i*13+8,none⟩=false:=h.th.free _
 have yX:w.frozen? ⟨tb,i*13+9,none⟩=false:=h.th.free _
 have nV:w.frozen? ⟨tb,i*13+10,none⟩=false:=h.th.free _
 have nU:w.frozen? ⟨tb,i*13+11,none⟩=false:=h.th.free _
 have nT:w.frozen? ⟨tb,i*13+12,none⟩=false:=h.th.free _
 have hcl:=lt_of_cell c0
 have htl:=lt_of_cell t0
 have HH:=hid h
 have HK:Hid (aY w c tb sb s.aN.length s.aX.length s.vars s.clock ev (s.aN.map vU) (s.aX.map lU)):=hid h
 have HI:=hid hi
 have hne:=h.ne
 have HG:Hid (s.aN[i]? =some t):=hid (bD hi he)
 have HE:=hid he
 have s0:=(h.si ha).1
 have s1:=(h.si ha).2
 have GY:w.frozen? ⟨sb,a*2,none⟩=false:=h.st.free _
 have GX:w.frozen? ⟨sb,a*2+1,none⟩=false:=h.st.free _
 have NP:(0:Int)≤(a:Int):=by omega
 have UZ:(a:Int) < (s.aX.length:Int):=by omega
 have hsl:=lt_of_cell s0
 have HA:=hid ha
 have HQ:Hid (s.aX[a]? =some (s.own a,s.jD a)):=hid (bD ha rfl)
 have hcb:=I7 t.owned a hm ha32
 clear h he hi ha
 go_enter Tryd.func85,Tryd.ntmps85
 go_wp2_with fail
 go_region
 all_goals (
  go_wp2_with fail
  go_end0
  exact⟨rfl,rfl⟩)
set_option maxRecDepth 100000 in
set_option maxHeartbeats 4000000 in
theorem He (h:fK w c tb sb s ev) (i:Nat) (hi:i < s.aN.length) {t:Th} (he:s.aN.getD i Th.zero=t) (hcm:0≤t.aP∧t.aP≤1000000000) (kind tx at_ v x why:Int):
  Calls Tryd.prog 47 #[.pointer (some ⟨c,0,none⟩),.pointer (some ⟨tb,i*13,none⟩),.agg #[.int .u8 kind,.int .i64 (i:Int),.int .i64 tx,.int .i64 at_,.int .i64 v,.int .i64 x,.int .u8 why]] w
   (mG w c tb sb s ev (eu s t ⟨kind,i,tx,at_,v,x,why⟩)):=by
 obtain⟨c0,c1,c2,c3,c4⟩:=h.cells
 obtain⟨t0,t1,t2,t3,t4,t5,t6,t7,t8,t9,t10,t11,t12⟩:=h.t hi he
 have f1:w.frozen? ⟨c,1,none⟩=false:=h.ck.free 1
 have zk:w.frozen? ⟨tb,i*13,none⟩=false:=h.th.free _
 have zi:w.frozen? ⟨tb,i*13+3,none⟩=false:=h.th.free _
 have zh:w.frozen? ⟨tb,i*13+4,none⟩=false:=h.th.free _
 have zg:w.frozen? ⟨tb,i*13+5,none⟩=false:=h.th.free _
 have zf:w.frozen? ⟨tb,i*13+6,none⟩=false:=h.th.free _
 have yZ:w.frozen? ⟨tb,i*13+7,none⟩=false:=h.th.free _
 have yY:w.frozen? ⟨tb,i*13+8,none⟩=false:=h.th.free _
 have yX:w.frozen? ⟨tb,i*13+9,none⟩=false:=h.th.free _
 have nV:w.frozen? ⟨tb,i*13+10,none⟩=false:=h.th.free _
 have nU:w.frozen? ⟨tb,i*13+11,none⟩=false:=h.th.free _
 have nT:w.frozen? ⟨tb,i*13+12,none⟩=false:=h.th.free _
 have hcl:=lt_of_cell c0
 have htl:=lt_of_cell t0
 have HH:=hid h
 have HK:Hid (aY w c tb sb s.aN.length s.aX.length s.vars s.clock ev (s.aN.map vU) (s.aX.map lU)):=hid h
 have HI:=hid hi
 have hne:=h.ne
 have HG:Hid (s.aN[i]? =some t):=hid (bD hi he)
 have HE:=hid he
 have ft1:w.frozen? ⟨tb,i*13+1,none⟩=false:=h.th.free _
 have HCM:=hid hcm
 clear h he hi hcm
 by_cases p1:v=0
 ·have k1:(v==0)=true:=by simpa using p1
  have k1':(v !=0)=false:=by simpa using p1
  by_cases p2:t.at_=1
  ·have k2:(t.at_==1)=true:=by simpa using p2
   have HR:=hid (show eu s t ⟨kind,i,tx,at_,v,x,why⟩=_ from if_pos ⟨p1,p2⟩)
   clear p1 p2
   go_enter Tryd.func47,Tryd.ntmps47
   go_wp2_with fail
   refine(En tb (i*13) t.aP t.at_ _ (aG t0) (aG t1) HCM.out ?_ ?_).mono ?_
   ·go_simp
   ·go_simp
   rintro e' w1 ⟨rfl,rfl⟩
   go_wp2_with fail
   go_ret
   (apply cZ HR.out rfl;(focus (repeat (first | (with_reducible exact HK.out) | (with_reducible apply aY.drew) | (with_reducible apply aY.alloc) | (with_reducible apply aY.drewN) | (with_reducible apply aY.gU;any_goals (exact HI.out)) | (with_reducible apply aY.jO;any_goals (first | (exact HI.out) | decide)) | (with_reducible apply aY.gV;any_goals (exact HA.out)) | (with_reducible apply aY.jP;any_goals (first | (exact HA.out) | decide)) | (with_reducible apply aY.di))));(exact⟨rfl,rfl⟩);((try simp only[aK]);exact aS _ _ _ _ _ _ HG.out rfl);rfl;(repeat (first | (with_reducible exact HT1.out) | (with_reducible exact Turn.refl _ _) | (with_reducible refine Turn.drew ?_) | (with_reducible refine Turn.alloc ?_ _) | (with_reducible refine Turn.drewN ?_ _) | (with_reducible refine Turn.setCell ?_ (Or.inl (by simp)) _))))
  ·have k2:(t.at_==1)=false:=by simpa using p2
   have HR:Hid (eu s t ⟨kind,i,tx,at_,v,x,why⟩=none):=hid (by unfold eu;rw[if_neg (by dsimp only;omega),if_neg (by dsimp only;omega)])
   clear p1 p2
   (go_enter Tryd.func47,Tryd.ntmps47;go_wp2_with fail;go_quiet (fail);go_wp2_with fail;go_ret;exact aV HR.out HH.out rfl (ai (by repeat (first | assumption | exact af _ | refine aj ?_ | refine ah ?_ _ | refine ag ?_ (by assumption))) _))
 have k1:(v==0)=false:=by simpa using p1
 have k1':(v !=0)=true:=by simpa using p1
 by_cases p2:t.at_=4
 case neg=>
  have k2:(t.at_==4)=false:=by simpa using p2
  have HR:Hid (eu s t ⟨kind,i,tx,at_,v,x,why⟩=none):=hid (by unfold eu;rw[if_neg (by dsimp only;omega),if_neg (by dsimp only;omega)])
  clear p1 p2
  (go_enter Tryd.func47,Tryd.ntmps47;go_wp2_with fail;go_quiet (fail);go_wp2_with fail;go_ret;exact aV HR.out HH.out rfl (ai (by repeat (first | assumption | exact af _ | refine aj ?_ | refine ah ?_ _ | refine ag ?_ (by assumption))) _))
 have k2:(t.at_==4)=true:=by simpa using p2
 by_cases p3:t.check=0
 case neg=>
  have k3:((t.check:Int)==0)=false:=by simp;exact p3
  have HR:Hid (eu s t ⟨kind,i,tx,at_,v,x,why⟩=none):=hid (by unfold eu;rw[if_neg (by dsimp only;omega),if_neg (by dsimp only;omega)])
  clear p1 p2 p3
  (go_enter Tryd.func47,Tryd.ntmps47;go_wp2_with fail;go_quiet (fail);go_wp2_with fail;go_ret;exact aV HR.out HH.out rfl (ai (by repeat (first | assumption | exact af _ | refine aj ?_ | refine ah ?_ _ | refine ag ?_ (by assumption))) _))
 have k3:((t.check:Int)==0)=true:=by simp[p3]
 by_cases p4:v=t.wv
 case neg=>
  have k4:(v==t.wv)=false:=by simpa using p4
  have HR:Hid (eu s t ⟨kind,i,tx,at_,v,x,why⟩=none):=hid (by unfold eu;rw[if_neg (by dsimp only;omega),if_neg (by dsimp only;omega)])
  clear p1 p2 p3 p4
  (go_enter Tryd.func47,Tryd.ntmps47;go_wp2_with fail;go_quiet (fail);go_wp2_with fail;go_ret;exact aV HR.out HH.out rfl (ai (by repeat (first | assumption | exact af _ | refine aj ?_ | refine ah ?_ _ | refine ag ?_ (by assumption))) _))
 have k4:(v==t.wv)=true:=by simpa using p4
 have HR:Hid (eu s t ⟨kind,i,tx,at_,v,x,why⟩=some (s.aI i { t with at_:=5 })):=hid (by unfold eu;rw[if_neg (by dsimp only;omega),if_pos ⟨p1,p2,p3,p4⟩])
 clear p1 p2 p3 p4
 go_enter Tryd.func47,Tryd.ntmps47
 go_wp2_with fail
 go_quiet (fail)
 go_wp2_with fail
 go_ret
 (apply cZ HR.out rfl;(focus (repeat (first | (with_reducible exact HK.out) | (with_reducible apply aY.drew) | (with_reducible apply aY.alloc) | (with_reducible apply aY.drewN) | (with_reducible apply aY.gU;any_goals (exact HI.out)) | (with_reducible apply aY.jO;any_goals (first | (exact HI.out) | decide)) | (with_reducible apply aY.gV;any_goals (exact HA.out)) | (with_reducible apply aY.jP;any_goals (first | (exact HA.out) | decide)) | (with_reducible apply aY.di))));(exact⟨rfl,rfl⟩);((try simp only[aK]);exact aS _ _ _ _ _ _ HG.out rfl);rfl;(repeat (first | (with_reducible exact HT1.out) | (with_reducible exact Turn.refl _ _) | (with_reducible refine Turn.drew ?_) | (with_reducible refine Turn.alloc ?_ _) | (with_reducible refine Turn.drewN ?_ _) | (with_reducible refine Turn.setCell ?_ (Or.inl (by simp)) _))))
end
end Go.Proofs.YtcddlnmcjmhbcaaDoor
-- short
