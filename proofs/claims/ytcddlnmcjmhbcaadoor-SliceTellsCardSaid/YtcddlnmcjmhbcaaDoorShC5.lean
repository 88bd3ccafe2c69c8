/-
  The checker; walks: Bump, Wait, Load.
-/
import Derived.Test.YtcddlnmcjmhbcaaDoorShC3
import Derived.IntWalk
namespace Go.Proofs.YtcddlnmcjmhbcaaDoor
set_option linter.unusedVariables false
open Go Go.RowKit
section
variable {w:World} {c tb sb:Nat} {s:Sh} {ev:Nat}
set_option maxRecDepth 100000 in
set_option maxHeartbeats 4000000 in
theorem bump_any (h:fK w c tb sb s ev) (i:Nat) (hi:i < s.aN.length) {t:Th} (he:s.aN.getD i Th.zero=t) (qL:0≤t.rv∧t.rv≤1099511627776) (kind tx at_ v x why:Int):
  Calls Tryd.prog 45 #[.pointer (some ⟨c,0,none⟩),.pointer (some ⟨tb,i*13,none⟩),.agg #[.int .u8 kind,.int .i64 (i:Int),.int .i64 tx,.int .i64 at_,.int .i64 v,.int .i64 x,.int .u8 why]] w
   (mG w c tb sb s ev (kR s t ⟨kind,i,tx,at_,v,x,why⟩)):=by
 obtain⟨c0,c1,c2,c3,c4⟩:=h.cells
 obtain⟨t0,t1,t2,t3,t4,t5,t6,t7,t8,t9,t10,t11,t12⟩:=h.t hi he
 have f1:w.frozen? ⟨c,1,none⟩=false:=h.ck.free 1
 have zk:w.frozen? ⟨tb,i*13,none⟩=false:=h.th.free _
 have zi:w.frozen? ⟨tb,i*13+3,none⟩=false:=h.th.free _
 have zh:w.frozen? ⟨tb,i*13+4,none⟩=false:=h.th.free _
 have zg:w.frozen? ⟨tb,i*13+5,none⟩=false:=h.th.free _
 have zf:w.frozen? ⟨tb,i*13+6,none⟩=false:=h.th.free _
 have yZ:w.frozen? ⟨tb,i*13+7,none⟩=false:=h.th.free _
 have yY:w.frozen? ⟨tb,i*13+8,none⟩=false:=h.th.free _
 have yX:w.frozen? ⟨tb,i*13+9,none⟩=false:=h.th.free _
 have nV:w.frozen? ⟨tb,i*13+10,none⟩=false:=h.th.free _
 have nU:w.frozen? ⟨tb,i*13+11,none⟩=false:=h.th.free _
 have nT:w.frozen? ⟨tb,i*13+12,none⟩=false:=h.th.free _
 have hcl:=lt_of_cell c0
 have htl:=lt_of_cell t0
 have HH:=hid h
 have HK:Hid (aY w c tb sb s.aN.length s.aX.length s.vars s.clock ev (s.aN.map vU) (s.aX.map lU)):=hid h
 have HI:=hid hi
 have hne:=h.ne
 have HG:Hid (s.aN[i]? =some t):=hid (bD hi he)
 have HE:=hid he
 have hr1:=qL.1
 have hr2:=qL.2
 have hw1:IntKind.i64.wrap (t.rv+1)=t.rv+1:=IntWalk.i64_in _ (by omega)
 clear h he hi
 by_cases p1:t.at_=3
 case neg=>
  have k1:(t.at_ !=3)=true:=by simpa using p1
  have HR:=hid (show kR s t ⟨kind,i,tx,at_,v,x,why⟩=none from if_neg (by dsimp only;omega))
  clear p1 hw1
  (go_enter Tryd.func45,Tryd.ntmps45;go_wp2_with fail;go_quiet (fail);go_wp2_with fail;go_ret;exact aV HR.out HH.out rfl (ai (by repeat (first | assumption | exact af _ | refine aj ?_ | refine ah ?_ _ | refine ag ?_ (by assumption))) _))
 have k1:(t.at_ !=3)=false:=by simpa using p1
 by_cases p2:s.clock < v
 case neg=>
  have k2:v≤s.clock:=by omega
  have HR:=hid (show kR s t ⟨kind,i,tx,at_,v,x,why⟩=none from if_neg (by dsimp only;omega))
  clear p1 p2 hw1
  (go_enter Tryd.func45,Tryd.ntmps45;go_wp2_with fail;go_quiet (fail);go_wp2_with fail;go_ret;exact aV HR.out HH.out rfl (ai (by repeat (first | assumption | exact af _ | refine aj ?_ | refine ah ?_ _ | refine ag ?_ (by assumption))) _))
 have k2:decide (v≤s.clock)=false:=decide_eq_false (by omega)
 by_cases p3:v=t.rv+1
 ·have k3:(v !=t.rv+1)=false:=by simpa using p3
  have HR:Hid (kR s t ⟨kind,i,tx,at_,v,x,why⟩=some ({ s with clock:=v }.aI i { t with at_:=4,wv:=v,check:=t.check })):=hid (by
   unfold kR;rw[if_pos ⟨p1,p2⟩];simp only[if_pos p3])
  clear p1 p2 p3
  go_enter Tryd.func45,Tryd.ntmps45
  go_wp2_with fail
  go_quiet (fail)
  go_wp2_with fail
  go_region
  all_goals
   go_wp2_with fail
  all_goals
   go_region
  all_goals (
   go_wp2_with fail
   go_ret
   (apply cZ HR.out rfl;(focus (repeat (first | (with_reducible exact HK.out) | (with_reducible apply aY.drew) | (with_reducible apply aY.alloc) | (with_reducible apply aY.drewN) | (with_reducible apply aY.gU;any_goals (exact HI.out)) | (with_reducible apply aY.jO;any_goals (first | (exact HI.out) | decide)) | (with_reducible apply aY.gV;any_goals (exact HA.out)) | (with_reducible apply aY.jP;any_goals (first | (exact HA.out) | decide)) | (with_reducible apply aY.di))));(exact⟨rfl,rfl⟩);((try simp only[aK]);exact aS _ _ _ _ _ _ HG.out rfl);rfl;(repeat (first | (with_reducible exact HT1.out) | (with_reducible exact Turn.refl _ _) | (with_reducible refine Turn.drew ?_) | (with_reducible refine Turn.alloc ?_ _) | (with_reducible refine Turn.drewN ?_ _) | (with_reducible refine Turn.setCell ?_ (Or.inl (by simp)) _)))))
 ·have k3:(v !=t.rv+1)=true:=by simpa using p3
  have HR:Hid (kR s t ⟨kind,i,tx,at_,v,x,why⟩=some ({ s with clock:=v }.aI i { t with at_:=4,wv:=v,check:=t.read })):=hid (by
   unfold kR;rw[if_pos ⟨p1,p2⟩];simp only[if_neg p3])
  clear p1 p2 p3
  go_enter Tryd.func45,Tryd.ntmps45
  go_wp2_with fail
  go_quiet (fail)
  go_wp2_with fail
  go_region
  all_goals
   go_wp2_with fail
  all_goals
   go_region
  all_goals (
   go_wp2_with fail
   go_ret
   (apply cZ HR.out rfl;(focus (repeat (first | (with_reducible exact HK.out) | (with_reducible apply aY.drew) | (with_reducible apply aY.alloc) | (with_reducible apply aY.drewN) | (with_reducible apply aY.gU;any_goals (exact HI.out)) | (with_reducible apply aY.jO;any_goals (first | (exact HI.out) | decide)) | (with_reducible apply aY.gV;any_goals (exact HA.out)) | (with_reducible apply aY.jP;any_goals (first | (exact HA.out) | decide)) | (with_reducible apply aY.di))));(exact⟨rfl,rfl⟩);((try simp only[aK]);exact aS _ _ _ _ _ _ HG.out rfl);rfl;(repeat (first | (with_reducible exact HT1.out) | (with_reducible exact Turn.refl _ _) | (with_reducible refine Turn.drew ?_) | (with_reducible refine Turn.alloc ?_ _) | (with_reducible refine Turn.drewN ?_ _) | (with_reducible refine Turn.setCell ?_ (Or.inl (by simp)) _)))))
set_option maxRecDepth 100000 in
set_option maxHeartbeats 4000000 in
theorem LK (h:fK w c tb sb s ev) (i:Nat) (hi:i < s.aN.length) {t:Th} (he:s.aN.getD i Th.zero=t) (kind tx at_ v x why:Int):
  Calls Tryd.prog 52 #[.pointer (some ⟨c,0,none⟩),.pointer (some ⟨tb,i*13,none⟩),.agg #[.int .u8 kind,.int .i64 (i:Int),.int .i64 tx,.int .i64 at_,.int .i64 v,.int .i64 x,.int .u8 why]] w
   (mG w c tb sb s ev (oz s t ⟨kind,i,tx,at_,v,x,why⟩)):=by
 obtain⟨c0,c1,c2,c3,c4⟩:=h.cells
 obtain⟨t0,t1,t2,t3,t4,t5,t6,t7,t8,t9,t10,t11,t12⟩:=h.t hi he
 have f1:w.frozen? ⟨c,1,none⟩=false:=h.ck.free 1
 have zk:w.frozen? ⟨tb,i*13,none⟩=false:=h.th.free _
 have zi:w.frozen? ⟨tb,i*13+3,none⟩=false:=h.th.free _
 have zh:w.frozen? ⟨tb,i*13+4,none⟩=false:=h.th.free _
 have zg:w.frozen? ⟨tb,i*13+5,none⟩=false:=h.th.free _
 have zf:w.frozen? ⟨tb,i*13+6,none⟩=false:=h.th.free _
 have yZ:w.frozen? ⟨tb,i*13+7,none⟩=false:=h.th.free _
 have yY:w.frozen? ⟨tb,i*13+8,none⟩=false:=h.th.free _
 have yX:w.frozen? ⟨tb,i*13+9,none⟩=false:=h.th.free _
 have nV:w.frozen? ⟨tb,i*13+10,none⟩=false:=h.th.free _
 have nU:w.frozen? ⟨tb,i*13+11,none⟩=false:=h.th.free _
 have nT:w.frozen? ⟨tb,i*13+12,none⟩=false:=h.th.free _
 have hcl:=lt_of_cell c0
 have htl:=lt_of_cell t0
 have HH:=hid h
 have HK:Hid (aY w c tb sb s.aN.length s.aX.length s.vars s.clock ev (s.aN.map vU) (s.aX.map lU)):=hid h
 have HI:=hid hi
 have hne:=h.ne
 have HG:Hid (s.aN[i]? =some t):=hid (bD hi he)
 have HE:=hid he
 clear h he hi
 by_cases p1:t.at_=1
 case neg=>
  have k1:(t.at_ !=1)=true:=by simpa using p1
  have HR:=hid (show oz s t ⟨kind,i,tx,at_,v,x,why⟩=none from if_neg p1)
  clear p1
  go_enter Tryd.func52,Tryd.ntmps52
  go_wp2_with fail
  go_ret
  exact aV HR.out HH.out rfl (by repeat (first | assumption | exact af _ | refine aj ?_ | refine ah ?_ _ | refine ag ?_ (by assumption)))
 have k1:(t.at_ !=1)=false:=by simpa using p1
 have HR:=hid (show oz s t ⟨kind,i,tx,at_,v,x,why⟩=_ from if_pos p1)
 clear p1
 go_enter Tryd.func52,Tryd.ntmps52
 go_wp2_with fail
 go_ret
 (apply cZ HR.out rfl;(focus (repeat (first | (with_reducible exact HK.out) | (with_reducible apply aY.drew) | (with_reducible apply aY.alloc) | (with_reducible apply aY.drewN) | (with_reducible apply aY.gU;any_goals (exact HI.out)) | (with_reducible apply aY.jO;any_goals (first | (exact HI.out) | decide)) | (with_reducible apply aY.gV;any_goals (exact HA.out)) | (with_reducible apply aY.jP;any_goals (first | (exact HA.out) | decide)) | (with_reducible apply aY.di))));(exact⟨rfl,rfl⟩);((try simp only[aK]);exact aS _ _ _ _ _ _ HG.out rfl);rfl;(repeat (first | (with_reducible exact HT1.out) | (with_reducible exact Turn.refl _ _) | (with_reducible refine Turn.drew ?_) | (with_reducible refine Turn.alloc ?_ _) | (with_reducible refine Turn.drewN ?_ _) | (with_reducible refine Turn.setCell ?_ (Or.inl (by simp)) _))))
set_option maxRecDepth 100000 in
set_option maxHeartbeats 4000000 in
theorem MP (h:fK w c tb sb s ev) (i:Nat) (hi:i < s.aN.length) {t:Th} (he:s.aN.getD i Th.zero=t) (hm:t.read < 4294967296) (q:Nat) (hq:t.dJ=(q:Int)) (SS:q < s.aX.length) (SV:q < 32) (a:Nat) (kind tx v x why:Int):
  Calls Tryd.prog 43 #[.pointer (some ⟨c,0,none⟩),.pointer (some ⟨tb,i*13,none⟩),.agg #[.int .u8 kind,.int .i64 (i:Int),.int .i64 tx,.int .i64 (a:Int),.int .i64 v,.int .i64 x,.int .u8 why]] w
   (mG w c tb sb s ev (lK s t ⟨kind,i,tx,a,v,x,why⟩)):=by
 obtain⟨c0,c1,c2,c3,c4⟩:=h.cells
 obtain⟨t0,t1,t2,t3,t4,t5,t6,t7,t8,t9,t10,t11,t12⟩:=h.t hi he
 have f1:w.frozen? ⟨c,1,none⟩=false:=h.ck.free 1
 have zk:w.frozen? ⟨tb,i*13,none⟩=false:=h.th.free _
 have zi:w.frozen? ⟨tb,i*13+3,none⟩=false:=h.th.free _
 have zh:w.frozen? ⟨tb,i*13+4,none⟩=false:=h.th.free _
 have zg:w.frozen? ⟨tb,i*13+5,none⟩=false:=h.th.free _
 have zf:w.frozen? ⟨tb,i*13+6,none⟩=false:=h.th.free _
 have yZ:w.frozen? ⟨tb,i*13+7,none⟩=false:=h.th.free _
 have yY:w.frozen? ⟨tb,i*13+8,none⟩=false:=h.th.free _
 have yX:w.frozen? ⟨tb,i*13+9,none⟩=false:=h.th.free _
 have nV:w.frozen? ⟨tb,i*13+10,none⟩=false:=h.th.free _
 have nU:w.frozen? ⟨tb,i*13+11,none⟩=false:=h.th.free _
 have nT:w.frozen? ⟨tb,i*13+12,none⟩=false:=h.th.free _
 have hcl:=lt_of_cell c0
 have htl:=lt_of_cell t0
 have HH:=hid h
 have HK:Hid (aY w c tb sb s.aN.length s.aX.length s.vars s.clock ev (s.aN.map vU) (s.aX.map lU)):=hid h
 have HI:=hid hi
 have hne:=h.ne
 have HG:Hid (s.aN[i]? =some t):=hid (bD hi he)
 have HE:=hid he
 have HF:Hid (∀ n,Calls Tryd.prog 80 #[.pointer (some ⟨c,0,none⟩),.pointer (some ⟨tb,i*13,none⟩)] ((w.alloc (.cells #[.int .u8 kind,.int .i64 (i:Int),.int .i64 tx,.int .i64 (a:Int),.int .i64 v,.int .i64 x,.int .u8 why] 49)).drewN n) fun e w'=>e=.returned (.bool (decide (s.own t.dJ=-1∧s.jD t.dJ=t.v)))∧∃ m,w'=((w.alloc (.cells #[.int .u8 kind,.int .i64 (i:Int),.int .i64 tx,.int .i64 (a:Int),.int .i64 v,.int .i64 x,.int .u8 why] 49)).drewN n).drewN m):=
  hid fun n=>Aj (s:=s) (ev:=ev) ((h.alloc _).drewN n) hi he hq SS
 have gn:(1:Int)≤(s.aX.length:Int):=by omega
 have gn2:(0:Int) < (s.aX.length:Int):=by omega
 have NP:(0:Int)≤(a:Int):=by omega
 have gq0:(0:Int)≤(q:Int):=by omega
 have hor:=or_bit t.read q hm SV
 rw[hq]at t4
 have SQ:t.dJ.toNat=q:=by omega
 clear h he hi
 by_cases p1:t.at_=2
 case neg=>
  have k1:(t.at_ !=2)=true:=by simpa using p1
  have HR:=hid (show lK s t ⟨kind,i,tx,a,v,x,why⟩=none from if_neg (by dsimp only;omega))
  clear p1 hq SQ
  (go_enter Tryd.func43,Tryd.ntmps43;go_wp2_with fail;go_quiet (fail);go_wp2_with fail;go_ret;exact aV HR.out HH.out rfl (ai (by repeat (first | assumption | exact af _ | refine aj ?_ | refine ah ?_ _ | refine ag ?_ (by assumption))) _))
 have k1:(t.at_ !=2)=false:=by simpa using p1
 by_cases p2:(a:Int) % (s.aX.length:Int)=(q:Int)
 case neg=>
  have k2:((a:Int) % (s.aX.length:Int) !=(q:Int))=true:=by simpa using p2
  have k3:((a:Int).tmod (s.aX.length:Int) !=(q:Int))=true:=by rw[Int.tmod_eq_emod_of_nonneg NP];exact k2
  have HR:=hid (show lK s t ⟨kind,i,tx,a,v,x,why⟩=none from if_neg (by dsimp only;rw[hq];intro hh;exact p2 hh.2.1))
  clear p1 p2 hq SQ
  (go_enter Tryd.func43,Tryd.ntmps43;go_wp2_with fail;go_quiet (fail);go_wp2_with fail;go_ret;exact aV HR.out HH.out rfl (ai (by repeat (first | assumption | exact af _ | refine aj ?_ | refine ah ?_ _ | refine ag ?_ (by assumption))) _))
 have k2:((a:Int) % (s.aX.length:Int) !=(q:Int))=false:=by simpa using p2
 have k3:((a:Int).tmod (s.aX.length:Int) !=(q:Int))=false:=by rw[Int.tmod_eq_emod_of_nonneg NP];exact k2
 by_cases p3:s.own t.dJ=-1∧s.jD t.dJ=t.v
 case neg=>
  have HF2:Hid (∀ n,Calls Tryd.prog 80 #[.pointer (some ⟨c,0,none⟩),.pointer (some ⟨tb,i*13,none⟩)] ((w.alloc (.cells #[.int .u8 kind,.int .i64 (i:Int),.int .i64 tx,.int .i64 (a:Int),.int .i64 v,.int .i64 x,.int .u8 why] 49)).drewN n) fun e w'=>e=.returned (.bool false)∧∃ m,w'=((w.alloc (.cells #[.int .u8 kind,.int .i64 (i:Int),.int .i64 tx,.int .i64 (a:Int),.int .i64 v,.int .i64 x,.int .u8 why] 49)).drewN n).drewN m):=
   hid fun n=>(HF.out n).mono fun e w' ⟨h1,h2⟩=>⟨by rw[h1,decide_eq_false p3],h2⟩
  have HR:=hid (show lK s t ⟨kind,i,tx,a,v,x,why⟩=none from if_neg (fun hh=>p3 ⟨hh.2.2.1,hh.2.2.2⟩))
  clear p1 p2 p3 hq SQ
  go_enter Tryd.func43,Tryd.ntmps43
  go_wp2_with fail
  go_quiet ((go_at_call 80;exact Calls.quiet_of (HF2.out _)))
  go_wp2_with fail
  go_ret
  exact aV HR.out HH.out rfl (ai (by repeat (first | assumption | exact af _ | refine aj ?_ | refine ah ?_ _ | refine ag ?_ (by assumption))) _)
 have HF2:Hid (∀ n,Calls Tryd.prog 80 #[.pointer (some ⟨c,0,none⟩),.pointer (some ⟨tb,i*13,none⟩)] ((w.alloc (.cells #[.int .u8 kind,.int .i64 (i:Int),.int .i64 tx,.int .i64 (a:Int),.int .i64 v,.int .i64 x,.int .u8 why] 49)).drewN n) fun e w'=>e=.returned (.bool true)∧∃ m,w'=((w.alloc (.cells #[.int .u8 kind,.int .i64 (i:Int),.int .i64 tx,.int .i64 (a:Int),.int .i64 v,.int .i64 x,.int .u8 why] 49)).drewN n).drewN m):=
  hid fun n=>(HF.out n).mono fun e w' ⟨h1,h2⟩=>⟨by rw[h1,decide_eq_true p3],h2⟩
 have HR:Hid (lK s t ⟨kind,i,tx,a,v,x,why⟩=some (s.aI i { t with at_:=1,read:=qf t.read q })):=hid (by
  unfold lK;rw[if_pos ⟨p1,by rw[hq];exact p2,p3.1,p3.2⟩,SQ])
 clear p1 p2 p3 hq SQ
 go_enter Tryd.func43,Tryd.ntmps43
 go_wp2_with fail
 go_quiet ((go_at_call 80;exact Calls.quiet_of (HF2.out _)))
 go_wp2_with fail
 go_region
 all_goals (
  go_wp2_with fail
  go_ret
  (apply cZ HR.out rfl;(focus (repeat (first | (with_reducible exact HK.out) | (with_reducible apply aY.drew) | (with_reducible apply aY.alloc) | (with_reducible apply aY.drewN) | (with_reducible apply aY.gU;any_goals (exact HI.out)) | (with_reducible apply aY.jO;any_goals (first | (exact HI.out) | decide)) | (with_reducible apply aY.gV;any_goals (exact HA.out)) | (with_reducible apply aY.jP;any_goals (first | (exact HA.out) | decide)) | (with_reducible apply aY.di))));(exact⟨rfl,rfl⟩);((try simp only[aK]);exact aS _ _ _ _ _ _ HG.out rfl);rfl;(repeat (first | (with_reducible exact HT1.out) | (with_reducible exact Turn.refl _ _) | (with_reducible refine Turn.drew ?_) | (with_reducible refine Turn.alloc ?_ _) | (with_reducible refine Turn.drewN ?_ _) | (with_reducible refine Turn.setCell ?_ (Or.inl (by simp)) _)))))
end
end Go.Proofs.YtcddlnmcjmhbcaaDoor
-- short
