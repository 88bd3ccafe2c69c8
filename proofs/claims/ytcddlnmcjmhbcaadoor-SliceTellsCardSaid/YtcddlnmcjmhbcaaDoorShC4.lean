/-
  The checker; walks: Look, Lock, Bump.
-/
import Derived.Test.YtcddlnmcjmhbcaaDoorShC3
namespace Go.Proofs.YtcddlnmcjmhbcaaDoor
set_option linter.unusedVariables false
open Go Go.RowKit
section
variable {w:World} {c tb sb:Nat} {s:Sh} {ev:Nat}
set_option maxRecDepth 100000 in
set_option maxHeartbeats 4000000 in
theorem MN (h:fK w c tb sb s ev) (i:Nat) (hi:i < s.aN.length) {t:Th} (he:s.aN.getD i Th.zero=t) (a:Nat) (ha:a < s.aX.length) (kind tx v x why:Int):
  Calls Tryd.prog 42 #[.pointer (some ⟨c,0,none⟩),.pointer (some ⟨tb,i*13,none⟩),.agg #[.int .u8 kind,.int .i64 (i:Int),.int .i64 tx,.int .i64 (a:Int),.int .i64 v,.int .i64 x,.int .u8 why]] w
   (mG w c tb sb s ev (lJ s t ⟨kind,i,tx,a,v,x,why⟩)):=by
 obtain⟨c0,c1,c2,c3,c4⟩:=h.cells
 obtain⟨t0,t1,t2,t3,t4,t5,t6,t7,t8,t9,t10,t11,t12⟩:=h.t hi he
 have f1:w.frozen? ⟨c,1,none⟩=false:=h.ck.free 1
 have zk:w.frozen? ⟨tb,i*13,none⟩=false:=h.th.free _
 have zi:w.frozen? ⟨tb,i*13+3,none⟩=false:=h.th.free _
 have zh:w.frozen? ⟨tb,i*13+4,none⟩=false:=h.th.free _
 have zg:w.frozen? ⟨tb,i*13+5,none⟩=false:=h.th.free _
 have zf:w.frozen? ⟨tb,i*13+6,none⟩=false:=h.th.free _
 have yZ:w.frozen? ⟨tb,i*13+7,none⟩=false:=h.th.free _
 have yY:w.frozen? ⟨tb,i*13+8,none⟩=false:=h.th.free _
 have yX:w.frozen? ⟨tb,i*13+9,none⟩=false:=h.th.free _
 have nV:w.frozen? ⟨tb,i*13+10,none⟩=false:=h.th.free _
 have nU:w.frozen? ⟨tb,i*13+11,none⟩=false:=h.th.free _
 have nT:w.frozen? ⟨tb,i*13+12,none⟩=false:=h.th.free _
 have hcl:=lt_of_cell c0
 have htl:=lt_of_cell t0
 have HH:=hid h
 have HK:Hid (aY w c tb sb s.aN.length s.aX.length s.vars s.clock ev (s.aN.map vU) (s.aX.map lU)):=hid h
 have HI:=hid hi
 have hne:=h.ne
 have HG:Hid (s.aN[i]? =some t):=hid (bD hi he)
 have HE:=hid he
 have s0:=(h.si ha).1
 have s1:=(h.si ha).2
 have GY:w.frozen? ⟨sb,a*2,none⟩=false:=h.st.free _
 have GX:w.frozen? ⟨sb,a*2+1,none⟩=false:=h.st.free _
 have NP:(0:Int)≤(a:Int):=by omega
 have UZ:(a:Int) < (s.aX.length:Int):=by omega
 have hsl:=lt_of_cell s0
 have HA:=hid ha
 have HQ:Hid (s.aX[a]? =some (s.own a,s.jD a)):=hid (bD ha rfl)
 have HF:Hid (∀ n,Calls Tryd.prog 79 #[.pointer (some ⟨c,0,none⟩),.int .i64 (a:Int)] ((w.alloc (.cells #[.int .u8 kind,.int .i64 (i:Int),.int .i64 tx,.int .i64 (a:Int),.int .i64 v,.int .i64 x,.int .u8 why] 49)).drewN n) fun e w'=>e=.returned (.bool (s.own a== -1))∧w'=(w.alloc (.cells #[.int .u8 kind,.int .i64 (i:Int),.int .i64 tx,.int .i64 (a:Int),.int .i64 v,.int .i64 x,.int .u8 why] 49)).drewN n):=
  hid fun n=>(nX (s:=s) (ev:=ev) ((h.alloc _).drewN n) a ha).mono fun e w' ⟨h1,h2⟩=>⟨h1,h2.symm⟩
 clear h he hi ha
 by_cases p1:t.at_=1
 case neg=>
  have k1:(t.at_ !=1)=true:=by simpa using p1
  have HR:=hid (show lJ s t ⟨kind,i,tx,a,v,x,why⟩=none from if_neg (by dsimp only;omega))
  clear p1
  (go_enter Tryd.func42,Tryd.ntmps42;go_wp2_with fail;go_quiet (fail);go_wp2_with fail;go_ret;exact aV HR.out HH.out rfl (ai (by repeat (first | assumption | exact af _ | refine aj ?_ | refine ah ?_ _ | refine ag ?_ (by assumption))) _))
 have k1:(t.at_ !=1)=false:=by simpa using p1
 by_cases p2:s.own a=-1
 case neg=>
  have HF2:Hid (∀ n,Calls Tryd.prog 79 #[.pointer (some ⟨c,0,none⟩),.int .i64 (a:Int)] ((w.alloc (.cells #[.int .u8 kind,.int .i64 (i:Int),.int .i64 tx,.int .i64 (a:Int),.int .i64 v,.int .i64 x,.int .u8 why] 49)).drewN n) fun e w'=>e=.returned (.bool false)∧w'=(w.alloc (.cells #[.int .u8 kind,.int .i64 (i:Int),.int .i64 tx,.int .i64 (a:Int),.int .i64 v,.int .i64 x,.int .u8 why] 49)).drewN n):=
   hid fun n=>(HF.out n).mono fun e w' ⟨h1,h2⟩=>⟨by rw[h1,beq_eq_false_iff_ne.2 p2],h2⟩
  have HR:=hid (show lJ s t ⟨kind,i,tx,a,v,x,why⟩=none from if_neg (by dsimp only;omega))
  clear p1 p2
  (go_enter Tryd.func42,Tryd.ntmps42;go_wp2_with fail;go_quiet ((go_at_call 79;exact Calls.quiet_of_same (HF2.out _)));go_wp2_with fail;go_ret;exact aV HR.out HH.out rfl (ai (by repeat (first | assumption | exact af _ | refine aj ?_ | refine ah ?_ _ | refine ag ?_ (by assumption))) _))
 have HF2:Hid (∀ n,Calls Tryd.prog 79 #[.pointer (some ⟨c,0,none⟩),.int .i64 (a:Int)] ((w.alloc (.cells #[.int .u8 kind,.int .i64 (i:Int),.int .i64 tx,.int .i64 (a:Int),.int .i64 v,.int .i64 x,.int .u8 why] 49)).drewN n) fun e w'=>e=.returned (.bool true)∧w'=(w.alloc (.cells #[.int .u8 kind,.int .i64 (i:Int),.int .i64 tx,.int .i64 (a:Int),.int .i64 v,.int .i64 x,.int .u8 why] 49)).drewN n):=
  hid fun n=>(HF.out n).mono fun e w' ⟨h1,h2⟩=>⟨by rw[h1,beq_iff_eq.2 p2],h2⟩
 by_cases p3:v < s.jD a
 case pos=>
  have HR:=hid (show lJ s t ⟨kind,i,tx,a,v,x,why⟩=none from if_neg (by dsimp only;omega))
  clear p1 p2
  (go_enter Tryd.func42,Tryd.ntmps42;go_wp2_with fail;go_quiet ((go_at_call 79;exact Calls.quiet_of_same (HF2.out _)));go_wp2_with fail;go_ret;exact aV HR.out HH.out rfl (ai (by repeat (first | assumption | exact af _ | refine aj ?_ | refine ah ?_ _ | refine ag ?_ (by assumption))) _))
 have k3:decide (v < s.jD a)=false:=decide_eq_false p3
 by_cases p4:t.rv < v
 case pos=>
  have HR:=hid (show lJ s t ⟨kind,i,tx,a,v,x,why⟩=none from if_neg (by dsimp only;omega))
  clear p1 p2 p3
  (go_enter Tryd.func42,Tryd.ntmps42;go_wp2_with fail;go_quiet ((go_at_call 79;exact Calls.quiet_of_same (HF2.out _)));go_wp2_with fail;go_ret;exact aV HR.out HH.out rfl (ai (by repeat (first | assumption | exact af _ | refine aj ?_ | refine ah ?_ _ | refine ag ?_ (by assumption))) _))
 have k4:decide (t.rv < v)=false:=decide_eq_false p4
 have HR:=hid (show lJ s t ⟨kind,i,tx,a,v,x,why⟩=_ from if_pos (by dsimp only;omega))
 have HS:Hid (s.aX[a]? =some (-1,s.jD a)):=hid (by rw[HQ.out,p2])
 clear p1 p2 p3 p4
 go_enter Tryd.func42,Tryd.ntmps42
 go_wp2_with fail
 go_quiet ((go_at_call 79;exact Calls.quiet_of_same (HF2.out _)))
 go_wp2_with fail
 go_region
 all_goals
  go_wp2_with fail
  go_region
 all_goals (
  go_wp2_with fail
  go_ret
  (apply cZ HR.out rfl;(focus (repeat (first | (with_reducible exact HK.out) | (with_reducible apply aY.drew) | (with_reducible apply aY.alloc) | (with_reducible apply aY.drewN) | (with_reducible apply aY.gU;any_goals (exact HI.out)) | (with_reducible apply aY.jO;any_goals (first | (exact HI.out) | decide)) | (with_reducible apply aY.gV;any_goals (exact HA.out)) | (with_reducible apply aY.jP;any_goals (first | (exact HA.out) | decide)) | (with_reducible apply aY.di))));(exact⟨rfl,rfl⟩);((try simp only[aK]);exact aS _ _ _ _ _ _ HG.out rfl);((try simp only[aK]);exact aS _ _ _ _ _ _ HS.out rfl);(repeat (first | (with_reducible exact HT1.out) | (with_reducible exact Turn.refl _ _) | (with_reducible refine Turn.drew ?_) | (with_reducible refine Turn.alloc ?_ _) | (with_reducible refine Turn.drewN ?_ _) | (with_reducible refine Turn.setCell ?_ (Or.inl (by simp)) _)))))
set_option maxRecDepth 100000 in
set_option maxHeartbeats 4000000 in
theorem MO (h:fK w c tb sb s ev) (i:Nat) (hi:i < s.aN.length) {t:Th} (he:s.aN.getD i Th.zero=t) (hm:t.owned < 4294967296) (a:Nat) (ha:a < s.aX.length) (ha32:a < 32) (kind tx v x why:Int):
  Calls Tryd.prog 44 #[.pointer (some ⟨c,0,none⟩),.pointer (some ⟨tb,i*13,none⟩),.agg #[.int .u8 kind,.int .i64 (i:Int),.int .i64 tx,.int .i64 (a:Int),.int .i64 v,.int .i64 x,.int .u8 why]] w
   (mG w c tb sb s ev (mF s t ⟨kind,i,tx,a,v,x,why⟩)):=by
 obtain⟨c0,c1,c2,c3,c4⟩:=h.cells
 obtain⟨t0,t1,t2,t3,t4,t5,t6,t7,t8,t9,t10,t11,t12⟩:=h.t hi he
 have f1:w.frozen? ⟨c,1,none⟩=false:=h.ck.free 1
 have zk:w.frozen? ⟨tb,i*13,none⟩=false:=h.th.free _
 have zi:w.frozen? ⟨tb,i*13+3,none⟩=false:=h.th.free _
 have zh:w.frozen? ⟨tb,i*13+4,none⟩=false:=h.th.free _
 have zg:w.frozen? ⟨tb,i*13+5,none⟩=false:=h.th.free _
 have zf:w.frozen? ⟨tb,i*13+6,none⟩=false:=h.th.free _
 have yZ:w.frozen? ⟨tb,i*13+7,none⟩=false:=h.th.free _
 have yY:w.frozen? ⟨tb,i*13+8,none⟩=false:=h.th.free _
 have yX:w.frozen? ⟨tb,i*13+9,none⟩=false:=h.th.free _
 have nV:w.frozen? ⟨tb,i*13+10,none⟩=false:=h.th.free _
 have nU:w.frozen? ⟨tb,i*13+11,none⟩=false:=h.th.free _
 have nT:w.frozen? ⟨tb,i*13+12,none⟩=false:=h.th.free _
 have hcl:=lt_of_cell c0
 have htl:=lt_of_cell t0
 have HH:=hid h
 have HK:Hid (aY w c tb sb s.aN.length s.aX.length s.vars s.clock ev (s.aN.map vU) (s.aX.map lU)):=hid h
 have HI:=hid hi
 have hne:=h.ne
 have HG:Hid (s.aN[i]? =some t):=hid (bD hi he)
 have HE:=hid he
 have s0:=(h.si ha).1
 have s1:=(h.si ha).2
 have GY:w.frozen? ⟨sb,a*2,none⟩=false:=h.st.free _
 have GX:w.frozen? ⟨sb,a*2+1,none⟩=false:=h.st.free _
 have NP:(0:Int)≤(a:Int):=by omega
 have UZ:(a:Int) < (s.aX.length:Int):=by omega
 have hsl:=lt_of_cell s0
 have HA:=hid ha
 have HQ:Hid (s.aX[a]? =some (s.own a,s.jD a)):=hid (bD ha rfl)
 have HF:Hid (∀ n,Calls Tryd.prog 79 #[.pointer (some ⟨c,0,none⟩),.int .i64 (a:Int)] ((w.alloc (.cells #[.int .u8 kind,.int .i64 (i:Int),.int .i64 tx,.int .i64 (a:Int),.int .i64 v,.int .i64 x,.int .u8 why] 49)).drewN n) fun e w'=>e=.returned (.bool (s.own a== -1))∧w'=(w.alloc (.cells #[.int .u8 kind,.int .i64 (i:Int),.int .i64 tx,.int .i64 (a:Int),.int .i64 v,.int .i64 x,.int .u8 why] 49)).drewN n):=
  hid fun n=>(nX (s:=s) (ev:=ev) ((h.alloc _).drewN n) a ha).mono fun e w' ⟨h1,h2⟩=>⟨h1,h2.symm⟩
 clear h he hi ha
 by_cases p1:t.at_=1∨t.at_=3
 case neg=>
  have k1:(t.at_ !=1)=true:=by simp;omega
  have k2:(t.at_ !=3)=true:=by simp;omega
  have HR:=hid (show mF s t ⟨kind,i,tx,a,v,x,why⟩=none from if_neg (by dsimp only;omega))
  clear p1
  (go_enter Tryd.func44,Tryd.ntmps44;go_wp2_with fail;go_quiet (fail);go_wp2_with fail;go_ret;exact aV HR.out HH.out rfl (ai (by repeat (first | assumption | exact af _ | refine aj ?_ | refine ah ?_ _ | refine ag ?_ (by assumption))) _))
 by_cases p2:t.locked < (a:Int)
 case neg=>
  have k3:(a:Int)≤t.locked:=by omega
  have HR:=hid (show mF s t ⟨kind,i,tx,a,v,x,why⟩=none from if_neg (by dsimp only;omega))
  rcases p1 with q1 | q1
  ·have k1:(t.at_ !=1)=false:=by simp[q1]
   clear q1 p2
   (go_enter Tryd.func44,Tryd.ntmps44;go_wp2_with fail;go_quiet (fail);go_wp2_with fail;go_ret;exact aV HR.out HH.out rfl (ai (by repeat (first | assumption | exact af _ | refine aj ?_ | refine ah ?_ _ | refine ag ?_ (by assumption))) _))
  ·have k1:(t.at_ !=1)=true:=by simp[q1]
   have k2:(t.at_ !=3)=false:=by simp[q1]
   clear q1 p2
   (go_enter Tryd.func44,Tryd.ntmps44;go_wp2_with fail;go_quiet (fail);go_wp2_with fail;go_ret;exact aV HR.out HH.out rfl (ai (by repeat (first | assumption | exact af _ | refine aj ?_ | refine ah ?_ _ | refine ag ?_ (by assumption))) _))
 have k3:decide ((a:Int)≤t.locked)=false:=decide_eq_false (by omega)
 by_cases p3:s.own a=-1
 case neg=>
  have HF2:Hid (∀ n,Calls Tryd.prog 79 #[.pointer (some ⟨c,0,none⟩),.int .i64 (a:Int)] ((w.alloc (.cells #[.int .u8 kind,.int .i64 (i:Int),.int .i64 tx,.int .i64 (a:Int),.int .i64 v,.int .i64 x,.int .u8 why] 49)).drewN n) fun e w'=>e=.returned (.bool false)∧w'=(w.alloc (.cells #[.int .u8 kind,.int .i64 (i:Int),.int .i64 tx,.int .i64 (a:Int),.int .i64 v,.int .i64 x,.int .u8 why] 49)).drewN n):=
   hid fun n=>(HF.out n).mono fun e w' ⟨h1,h2⟩=>⟨by rw[h1,beq_eq_false_iff_ne.2 p3],h2⟩
  have HR:=hid (show mF s t ⟨kind,i,tx,a,v,x,why⟩=none from if_neg (by dsimp only;omega))
  rcases p1 with q1 | q1
  ·have k1:(t.at_ !=1)=false:=by simp[q1]
   clear q1 p2 p3
   (go_enter Tryd.func44,Tryd.ntmps44;go_wp2_with fail;go_quiet ((go_at_call 79;exact Calls.quiet_of_same (HF2.out _)));go_wp2_with fail;go_ret;exact aV HR.out HH.out rfl (ai (by repeat (first | assumption | exact af _ | refine aj ?_ | refine ah ?_ _ | refine ag ?_ (by assumption))) _))
  ·have k1:(t.at_ !=1)=true:=by simp[q1]
   have k2:(t.at_ !=3)=false:=by simp[q1]
   clear q1 p2 p3
   (go_enter Tryd.func44,Tryd.ntmps44;go_wp2_with fail;go_quiet ((go_at_call 79;exact Calls.quiet_of_same (HF2.out _)));go_wp2_with fail;go_ret;exact aV HR.out HH.out rfl (ai (by repeat (first | assumption | exact af _ | refine aj ?_ | refine ah ?_ _ | refine ag ?_ (by assumption))) _))
 have HF2:Hid (∀ n,Calls Tryd.prog 79 #[.pointer (some ⟨c,0,none⟩),.int .i64 (a:Int)] ((w.alloc (.cells #[.int .u8 kind,.int .i64 (i:Int),.int .i64 tx,.int .i64 (a:Int),.int .i64 v,.int .i64 x,.int .u8 why] 49)).drewN n) fun e w'=>e=.returned (.bool true)∧w'=(w.alloc (.cells #[.int .u8 kind,.int .i64 (i:Int),.int .i64 tx,.int .i64 (a:Int),.int .i64 v,.int .i64 x,.int .u8 why] 49)).drewN n):=
  hid fun n=>(HF.out n).mono fun e w' ⟨h1,h2⟩=>⟨by rw[h1,beq_iff_eq.2 p3],h2⟩
 have HR:=hid (show mF s t ⟨kind,i,tx,a,v,x,why⟩=_ from if_pos ⟨p1,p2,p3⟩)
 have HS:=HQ
 have hor:=or_bit t.owned a hm ha32
 rcases p1 with q1 | q1
 ·have k1:(t.at_ !=1)=false:=by simp[q1]
  clear q1 p2 p3
  go_enter Tryd.func44,Tryd.ntmps44
  go_wp2_with fail
  go_quiet ((go_at_call 79;exact Calls.quiet_of_same (HF2.out _)))
  go_wp2_with fail
  go_region
  all_goals
   go_wp2_with fail
  all_goals
   go_region
  all_goals
   go_wp2_with fail
  all_goals
   go_region
  all_goals (
   go_wp2_with fail
   go_ret
   (apply cZ HR.out rfl;(focus (repeat (first | (with_reducible exact HK.out) | (with_reducible apply aY.drew) | (with_reducible apply aY.alloc) | (with_reducible apply aY.drewN) | (with_reducible apply aY.gU;any_goals (exact HI.out)) | (with_reducible apply aY.jO;any_goals (first | (exact HI.out) | decide)) | (with_reducible apply aY.gV;any_goals (exact HA.out)) | (with_reducible apply aY.jP;any_goals (first | (exact HA.out) | decide)) | (with_reducible apply aY.di))));(exact⟨rfl,rfl⟩);((try simp only[aK]);exact aS _ _ _ _ _ _ HG.out rfl);((try simp only[aK]);exact aS _ _ _ _ _ _ HS.out rfl);(repeat (first | (with_reducible exact HT1.out) | (with_reducible exact Turn.refl _ _) | (with_reducible refine Turn.drew ?_) | (with_reducible refine Turn.alloc ?_ _) | (with_reducible refine Turn.drewN ?_ _) | (with_reducible refine Turn.setCell ?_ (Or.inl (by simp)) _)))))
 ·have k1:(t.at_ !=1)=true:=by simp[q1]
  have k2:(t.at_ !=3)=false:=by simp[q1]
  clear q1 p2 p3
  go_enter Tryd.func44,Tryd.ntmps44
  go_wp2_with fail
  go_quiet ((go_at_call 79;exact Calls.quiet_of_same (HF2.out _)))
  go_wp2_with fail
  go_region
  all_goals
   go_wp2_with fail
  all_goals
   go_region
  all_goals
   go_wp2_with fail
  all_goals
   go_region
  all_goals (
   go_wp2_with fail
   go_ret
   (apply cZ HR.out rfl;(focus (repeat (first | (with_reducible exact HK.out) | (with_reducible apply aY.drew) | (with_reducible apply aY.alloc) | (with_reducible apply aY.drewN) | (with_reducible apply aY.gU;any_goals (exact HI.out)) | (with_reducible apply aY.jO;any_goals (first | (exact HI.out) | decide)) | (with_reducible apply aY.gV;any_goals (exact HA.out)) | (with_reducible apply aY.jP;any_goals (first | (exact HA.out) | decide)) | (with_reducible apply aY.di))));(exact⟨rfl,rfl⟩);((try simp only[aK]);exact aS _ _ _ _ _ _ HG.out rfl);((try simp only[aK]);exact aS _ _ _ _ _ _ HS.out rfl);(repeat (first | (with_reducible exact HT1.out) | (with_reducible exact Turn.refl _ _) | (with_reducible refine Turn.drew ?_) | (with_reducible refine Turn.alloc ?_ _) | (with_reducible refine Turn.drewN ?_ _) | (with_reducible refine Turn.setCell ?_ (Or.inl (by simp)) _)))))
end
end Go.Proofs.YtcddlnmcjmhbcaaDoor
-- short
