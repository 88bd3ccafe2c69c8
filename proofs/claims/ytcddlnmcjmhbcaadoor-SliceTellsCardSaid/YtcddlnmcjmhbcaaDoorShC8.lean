/-
  The checker; walks: Free, Undo.
-/
import Derived.Test.YtcddlnmcjmhbcaaDoorShC6
namespace Go.Proofs.YtcddlnmcjmhbcaaDoor
set_option linter.unusedVariables false
open Go Go.RowKit
section
variable {w:World} {c tb sb:Nat} {s:Sh} {ev:Nat}
set_option maxRecDepth 100000 in
set_option maxHeartbeats 4000000 in
theorem Kv (h:fK w c tb sb s ev) (hT:gJ w) (i:Nat) (hi:i < s.aN.length) {t:Th} (he:s.aN.getD i Th.zero=t) (hm:t.owned < 4294967296) (hcm:0≤t.aP∧t.aP≤1000000000) (a:Nat) (ha:a < s.aX.length) (ha32:a < 32) (kind tx v x why:Int):
  Calls Tryd.prog 49 #[.pointer (some ⟨c,0,none⟩),.pointer (some ⟨tb,i*13,none⟩),.agg #[.int .u8 kind,.int .i64 (i:Int),.int .i64 tx,.int .i64 (a:Int),.int .i64 v,.int .i64 x,.int .u8 why]] w
   (mG w c tb sb s ev (iT s t ⟨kind,i,tx,a,v,x,why⟩)):=by
 obtain⟨c0,c1,c2,c3,c4⟩:=h.cells
 obtain⟨t0,t1,t2,t3,t4,t5,t6,t7,t8,t9,t10,t11,t12⟩:=h.t hi he
 have f1:w.frozen? ⟨c,1,none⟩=false:=h.ck.free 1
 have zk:w.frozen? ⟨tb,i*13,none⟩=false:=h.th.free _
 have zi:w.frozen? ⟨tb,i*13+3,none⟩=false:=h.th.free _
 have zh:w.frozen? ⟨tb,i*13+4,none⟩=false:=h.th.free _
 have zg:w.frozen? ⟨tb,i*13+5,none⟩=false:=h.th.free _
 have zf:w.frozen? ⟨tb,i*13+6,none⟩=false:=h.th.free _
 have yZ:w.frozen? ⟨tb,i*13+7,none⟩=false:=h.th.free _
 have yY:w.frozen? ⟨tb,i*13+8,none⟩=false:=h.th.free _
 have yX:w.frozen? ⟨tb,i*13+9,none⟩=false:=h.th.free _
 have nV:w.frozen? ⟨tb,i*13+10,none⟩=false:=h.th.free _
 have nU:w.frozen? ⟨tb,i*13+11,none⟩=false:=h.th.free _
 have nT:w.frozen? ⟨tb,i*13+12,none⟩=false:=h.th.free _
 have hcl:=lt_of_cell c0
 have htl:=lt_of_cell t0
 have HH:=hid h
 have HK:Hid (aY w c tb sb s.aN.length s.aX.length s.vars s.clock ev (s.aN.map vU) (s.aX.map lU)):=hid h
 have HI:=hid hi
 have hne:=h.ne
 have HG:Hid (s.aN[i]? =some t):=hid (bD hi he)
 have HE:=hid he
 have s0:=(h.si ha).1
 have s1:=(h.si ha).2
 have GY:w.frozen? ⟨sb,a*2,none⟩=false:=h.st.free _
 have GX:w.frozen? ⟨sb,a*2+1,none⟩=false:=h.st.free _
 have NP:(0:Int)≤(a:Int):=by omega
 have UZ:(a:Int) < (s.aX.length:Int):=by omega
 have hsl:=lt_of_cell s0
 have HA:=hid ha
 have HQ:Hid (s.aX[a]? =some (s.own a,s.jD a)):=hid (bD ha rfl)
 have ft1:w.frozen? ⟨tb,i*13+1,none⟩=false:=h.th.free _
 have HCM:=hid hcm
 have HL:Hid (∀ n,Calls Tryd.prog 81 #[.int .u32 (t.owned:Int)] ((w.alloc (.cells #[.int .u8 kind,.int .i64 (i:Int),.int .i64 tx,.int .i64 (a:Int),.int .i64 v,.int .i64 x,.int .u8 why] 49)).drewN n) fun e w'=>e=.returned (.int .i64 (bH t.owned:Int))∧w'=(w.alloc (.cells #[.int .u8 kind,.int .i64 (i:Int),.int .i64 tx,.int .i64 (a:Int),.int .i64 v,.int .i64 x,.int .u8 why] 49)).drewN n):=
  hid fun n=>(pO t.owned hm _ (hT.below (ai (ah (af _) _) n))).mono fun e w' ⟨h1,h2⟩=>⟨h1,h2.symm⟩
 have HV:Hid (∀ n,Calls Tryd.prog 85 #[.pointer (some ⟨c,0,none⟩),.pointer (some ⟨tb,i*13,none⟩),.int .i64 (a:Int)] ((w.alloc (.cells #[.int .u8 kind,.int .i64 (i:Int),.int .i64 tx,.int .i64 (a:Int),.int .i64 v,.int .i64 x,.int .u8 why] 49)).drewN n) fun e w'=>e=.returned (.tuple #[])∧w'=((((w.alloc (.cells #[.int .u8 kind,.int .i64 (i:Int),.int .i64 tx,.int .i64 (a:Int),.int .i64 v,.int .i64 x,.int .u8 why] 49)).drewN n).setCell ⟨tb,i*13+7,none⟩ (.int .u32 ((fV t.owned a:Nat):Int))).setCell ⟨sb,a*2,none⟩ (.int .i64 (-1))).drew):=
  hid fun n=>AO (s:=s) (ev:=ev) ((h.alloc _).drewN n) i hi he hm a ha ha32
 clear h hT he hi ha hcm
 by_cases p2:a=bH t.owned
 case neg=>
  have k5:((a:Int) !=(bH t.owned:Int))=true:=by simp;omega
  have HR:=hid (show iT s t ⟨kind,i,tx,a,v,x,why⟩=none from if_neg (fun hh=>p2 (by have:=hh.2;dsimp only at this;omega)))
  by_cases q1:t.at_=6
  ·have k1:(t.at_ !=6)=false:=by simp[q1]
   clear q1 p2
   (go_enter Tryd.func49,Tryd.ntmps49;go_wp2_with fail;go_quiet ((go_at_call 81;exact Calls.quiet_of_same (HL.out _)));go_wp2_with fail;go_ret;exact aV HR.out HH.out rfl (ai (by repeat (first | assumption | exact af _ | refine aj ?_ | refine ah ?_ _ | refine ag ?_ (by assumption))) _))
  have k1:(t.at_ !=6)=true:=by simpa using q1
  by_cases q2:t.at_=5
  ·have k2:(t.at_ !=5)=false:=by simp[q2]
   by_cases q3:t.stored=t.owned
   ·have k3:((t.stored:Int) !=(t.owned:Int))=false:=by simp[q3]
    clear q1 q2 q3 p2
    (go_enter Tryd.func49,Tryd.ntmps49;go_wp2_with fail;go_quiet ((go_at_call 81;exact Calls.quiet_of_same (HL.out _)));go_wp2_with fail;go_ret;exact aV HR.out HH.out rfl (ai (by repeat (first | assumption | exact af _ | refine aj ?_ | refine ah ?_ _ | refine ag ?_ (by assumption))) _))
   ·have k3:((t.stored:Int) !=(t.owned:Int))=true:=by simp;omega
    clear q1 q2 q3 p2
    (go_enter Tryd.func49,Tryd.ntmps49;go_wp2_with fail;go_quiet ((go_at_call 81;exact Calls.quiet_of_same (HL.out _)));go_wp2_with fail;go_ret;exact aV HR.out HH.out rfl (ai (by repeat (first | assumption | exact af _ | refine aj ?_ | refine ah ?_ _ | refine ag ?_ (by assumption))) _))
  ·have k2:(t.at_ !=5)=true:=by simpa using q2
   clear q1 q2 p2
   (go_enter Tryd.func49,Tryd.ntmps49;go_wp2_with fail;go_quiet ((go_at_call 81;exact Calls.quiet_of_same (HL.out _)));go_wp2_with fail;go_ret;exact aV HR.out HH.out rfl (ai (by repeat (first | assumption | exact af _ | refine aj ?_ | refine ah ?_ _ | refine ag ?_ (by assumption))) _))
 have k5:((a:Int) !=(bH t.owned:Int))=false:=by simp;omega
 by_cases p1:t.at_=6∨(t.at_=5∧t.stored=t.owned)
 case neg=>
  have HR:=hid (show iT s t ⟨kind,i,tx,a,v,x,why⟩=none from if_neg (fun hh=>p1 hh.1))
  have k1:(t.at_ !=6)=true:=by simp;omega
  by_cases q2:t.at_=5
  ·have k2:(t.at_ !=5)=false:=by simp[q2]
   have k3:((t.stored:Int) !=(t.owned:Int))=true:=by simp;omega
   clear q2 p1 p2
   (go_enter Tryd.func49,Tryd.ntmps49;go_wp2_with fail;go_quiet ((go_at_call 81;exact Calls.quiet_of_same (HL.out _)));go_wp2_with fail;go_ret;exact aV HR.out HH.out rfl (ai (by repeat (first | assumption | exact af _ | refine aj ?_ | refine ah ?_ _ | refine ag ?_ (by assumption))) _))
  ·have k2:(t.at_ !=5)=true:=by simpa using q2
   clear q2 p1 p2
   (go_enter Tryd.func49,Tryd.ntmps49;go_wp2_with fail;go_quiet ((go_at_call 81;exact Calls.quiet_of_same (HL.out _)));go_wp2_with fail;go_ret;exact aV HR.out HH.out rfl (ai (by repeat (first | assumption | exact af _ | refine aj ?_ | refine ah ?_ _ | refine ag ?_ (by assumption))) _))
 have HS:=HQ
 have hc:((t.at_ !=6)=false)∨((t.at_ !=6)=true∧(t.at_ !=5)=false∧((t.stored:Int) !=(t.owned:Int))=false):=by
  by_cases q:t.at_=6
  ·left;simp[q]
  ·right
   have:t.at_=5∧t.stored=t.owned:=by omega
   simp[this.1,this.2]
 by_cases pz:fV t.owned a=0
 ·have kz:(((fV t.owned a:Nat):Int)==0)=true:=by simp[pz]
  have HR:Hid (iT s t ⟨kind,i,tx,a,v,x,why⟩=some ((s.setSt a (-1,t.wv)).aI i { t with at_:=0,owned:=fV t.owned a,aP:=t.aP+1 })):=hid (by
   unfold iT;rw[if_pos ⟨p1,by dsimp only;omega⟩]
   simp only[Int.toNat_natCast,if_pos pz])
  clear p1 p2 pz
  rcases hc with k1 | ⟨k1,k2,k3⟩
  all_goals (
   go_enter Tryd.func49,Tryd.ntmps49
   go_wp2_with fail
   go_quiet ((go_at_call 81;exact Calls.quiet_of_same (HL.out _)))
   go_wp2_with fail
   refine(HV.out _).mono ?_
   rintro e' w1 ⟨rfl,rfl⟩
   go_wp2_with fail
   go_region
   all_goals (
    go_wp2_with fail
    refine(En tb (i*13) t.aP 6 _ ?_ ?_ HCM.out ?_ ?_).mono ?_
    ·go_simp
    ·go_simp
    ·go_simp
    ·go_simp
    rintro e' w1 ⟨rfl,rfl⟩
    go_wp2_with fail
    go_ret
    (apply cZ HR.out rfl;(focus (repeat (first | (with_reducible exact HK.out) | (with_reducible apply aY.drew) | (with_reducible apply aY.alloc) | (with_reducible apply aY.drewN) | (with_reducible apply aY.gU;any_goals (exact HI.out)) | (with_reducible apply aY.jO;any_goals (first | (exact HI.out) | decide)) | (with_reducible apply aY.gV;any_goals (exact HA.out)) | (with_reducible apply aY.jP;any_goals (first | (exact HA.out) | decide)) | (with_reducible apply aY.di))));(exact⟨rfl,rfl⟩);((try simp only[aK]);exact aS _ _ _ _ _ _ HG.out rfl);((try simp only[aK]);exact aS _ _ _ _ _ _ HS.out rfl);(repeat (first | (with_reducible exact HT1.out) | (with_reducible exact Turn.refl _ _) | (with_reducible refine Turn.drew ?_) | (with_reducible refine Turn.alloc ?_ _) | (with_reducible refine Turn.drewN ?_ _) | (with_reducible refine Turn.setCell ?_ (Or.inl (by simp)) _))))))
 ·have kz:(((fV t.owned a:Nat):Int)==0)=false:=by simp;exact pz
  have HR:Hid (iT s t ⟨kind,i,tx,a,v,x,why⟩=some ((s.setSt a (-1,t.wv)).aI i { t with at_:=6,owned:=fV t.owned a })):=hid (by
   unfold iT;rw[if_pos ⟨p1,by dsimp only;omega⟩]
   simp only[Int.toNat_natCast,if_neg pz])
  clear p1 p2 pz
  rcases hc with k1 | ⟨k1,k2,k3⟩
  all_goals (
   go_enter Tryd.func49,Tryd.ntmps49
   go_wp2_with fail
   go_quiet ((go_at_call 81;exact Calls.quiet_of_same (HL.out _)))
   go_wp2_with fail
   refine(HV.out _).mono ?_
   rintro e' w1 ⟨rfl,rfl⟩
   go_wp2_with fail
   go_region
   all_goals (
    go_wp2_with fail
    go_ret
    (apply cZ HR.out rfl;(focus (repeat (first | (with_reducible exact HK.out) | (with_reducible apply aY.drew) | (with_reducible apply aY.alloc) | (with_reducible apply aY.drewN) | (with_reducible apply aY.gU;any_goals (exact HI.out)) | (with_reducible apply aY.jO;any_goals (first | (exact HI.out) | decide)) | (with_reducible apply aY.gV;any_goals (exact HA.out)) | (with_reducible apply aY.jP;any_goals (first | (exact HA.out) | decide)) | (with_reducible apply aY.di))));(exact⟨rfl,rfl⟩);((try simp only[aK]);exact aS _ _ _ _ _ _ HG.out rfl);((try simp only[aK]);exact aS _ _ _ _ _ _ HS.out rfl);(repeat (first | (with_reducible exact HT1.out) | (with_reducible exact Turn.refl _ _) | (with_reducible refine Turn.drew ?_) | (with_reducible refine Turn.alloc ?_ _) | (with_reducible refine Turn.drewN ?_ _) | (with_reducible refine Turn.setCell ?_ (Or.inl (by simp)) _))))))
set_option maxRecDepth 100000 in
set_option maxHeartbeats 4000000 in
theorem LP (h:fK w c tb sb s ev) (hT:gJ w) (i:Nat) (hi:i < s.aN.length) {t:Th} (he:s.aN.getD i Th.zero=t) (hm:t.owned < 4294967296) (a:Nat) (ha:a < s.aX.length) (ha32:a < 32) (kind tx v x why:Int):
  Calls Tryd.prog 51 #[.pointer (some ⟨c,0,none⟩),.pointer (some ⟨tb,i*13,none⟩),.agg #[.int .u8 kind,.int .i64 (i:Int),.int .i64 tx,.int .i64 (a:Int),.int .i64 v,.int .i64 x,.int .u8 why]] w
   (mG w c tb sb s ev (jX s t ⟨kind,i,tx,a,v,x,why⟩)):=by
 obtain⟨c0,c1,c2,c3,c4⟩:=h.cells
 obtain⟨t0,t1,t2,t3,t4,t5,t6,t7,t8,t9,t10,t11,t12⟩:=h.t hi he
 have f1:w.frozen? ⟨c,1,none⟩=false:=h.ck.free 1
 have zk:w.frozen? ⟨tb,i*13,none⟩=false:=h.th.free _
 have zi:w.frozen? ⟨tb,i*13+3,none⟩=false:=h.th.free _
 have zh:w.frozen? ⟨tb,i*13+4,none⟩=false:=h.th.free _
 have zg:w.frozen? ⟨tb,i*13+5,none⟩=false:=h.th.free _
 have zf:w.frozen? ⟨tb,i*13+6,none⟩=false:=h.th.free _
 have yZ:w.frozen? ⟨tb,i*13+7,none⟩=false:=h.th.free _
 have yY:w.frozen? ⟨tb,i*13+8,none⟩=false:=h.th.free _
 have yX:w.frozen? ⟨tb,i*13+9,none⟩=false:=h.th.free _
 have nV:w.frozen? ⟨tb,i*13+10,none⟩=false:=h.th.free _
 have nU:w.frozen? ⟨tb,i*13+11,none⟩=false:=h.th.free _
 have nT:w.frozen? ⟨tb,i*13+12,none⟩=false:=h.th.free _
 have hcl:=lt_of_cell c0
 have htl:=lt_of_cell t0
 have HH:=hid h
 have HK:Hid (aY w c tb sb s.aN.length s.aX.length s.vars s.clock ev (s.aN.map vU) (s.aX.map lU)):=hid h
 have HI:=hid hi
 have hne:=h.ne
 have HG:Hid (s.aN[i]? =some t):=hid (bD hi he)
 have HE:=hid he
 have s0:=(h.si ha).1
 have s1:=(h.si ha).2
 have GY:w.frozen? ⟨sb,a*2,none⟩=false:=h.st.free _
 have GX:w.frozen? ⟨sb,a*2+1,none⟩=false:=h.st.free _
 have NP:(0:Int)≤(a:Int):=by omega
 have UZ:(a:Int) < (s.aX.length:Int):=by omega
 have hsl:=lt_of_cell s0
 have HA:=hid ha
 have HQ:Hid (s.aX[a]? =some (s.own a,s.jD a)):=hid (bD ha rfl)
 have HL:Hid (∀ n,Calls Tryd.prog 81 #[.int .u32 (t.owned:Int)] ((w.alloc (.cells #[.int .u8 kind,.int .i64 (i:Int),.int .i64 tx,.int .i64 (a:Int),.int .i64 v,.int .i64 x,.int .u8 why] 49)).drewN n) fun e w'=>e=.returned (.int .i64 (bH t.owned:Int))∧w'=(w.alloc (.cells #[.int .u8 kind,.int .i64 (i:Int),.int .i64 tx,.int .i64 (a:Int),.int .i64 v,.int .i64 x,.int .u8 why] 49)).drewN n):=
  hid fun n=>(pO t.owned hm _ (hT.below (ai (ah (af _) _) n))).mono fun e w' ⟨h1,h2⟩=>⟨h1,h2.symm⟩
 have HV:Hid (∀ n,Calls Tryd.prog 85 #[.pointer (some ⟨c,0,none⟩),.pointer (some ⟨tb,i*13,none⟩),.int .i64 (a:Int)] ((w.alloc (.cells #[.int .u8 kind,.int .i64 (i:Int),.int .i64 tx,.int .i64 (a:Int),.int .i64 v,.int .i64 x,.int .u8 why] 49)).drewN n) fun e w'=>e=.returned (.tuple #[])∧w'=((((w.alloc (.cells #[.int .u8 kind,.int .i64 (i:Int),.int .i64 tx,.int .i64 (a:Int),.int .i64 v,.int .i64 x,.int .u8 why] 49)).drewN n).setCell ⟨tb,i*13+7,none⟩ (.int .u32 ((fV t.owned a:Nat):Int))).setCell ⟨sb,a*2,none⟩ (.int .i64 (-1))).drew):=
  hid fun n=>AO (s:=s) (ev:=ev) ((h.alloc _).drewN n) i hi he hm a ha ha32
 clear h hT he hi ha
 by_cases p1:t.at_=7
 case neg=>
  have k1:(t.at_ !=7)=true:=by simpa using p1
  have HR:=hid (show jX s t ⟨kind,i,tx,a,v,x,why⟩=none from if_neg (fun hh=>p1 hh.1))
  clear p1
  (go_enter Tryd.func51,Tryd.ntmps51;go_wp2_with fail;go_quiet (fail);go_wp2_with fail;go_ret;exact aV HR.out HH.out rfl (ai (by repeat (first | assumption | exact af _ | refine aj ?_ | refine ah ?_ _ | refine ag ?_ (by assumption))) _))
 have k1:(t.at_ !=7)=false:=by simpa using p1
 by_cases p2:a=bH t.owned
 case neg=>
  have k5:((a:Int) !=(bH t.owned:Int))=true:=by simp;omega
  have HR:=hid (show jX s t ⟨kind,i,tx,a,v,x,why⟩=none from if_neg (fun hh=>p2 (by have:=hh.2;dsimp only at this;omega)))
  clear p1 p2
  (go_enter Tryd.func51,Tryd.ntmps51;go_wp2_with fail;go_quiet ((go_at_call 81;exact Calls.quiet_of_same (HL.out _)));go_wp2_with fail;go_ret;exact aV HR.out HH.out rfl (ai (by repeat (first | assumption | exact af _ | refine aj ?_ | refine ah ?_ _ | refine ag ?_ (by assumption))) _))
 have k5:((a:Int) !=(bH t.owned:Int))=false:=by simp;omega
 have HS:=HQ
 by_cases pz:fV t.owned a=0
 ·have kz:(((fV t.owned a:Nat):Int)==0)=true:=by simp[pz]
  cases hf:t.full
  ·rw[hf]at t12
   have HR:Hid (jX s t ⟨kind,i,tx,a,v,x,why⟩=some ((s.setSt a (-1,s.jD a)).aI i { t with at_:=0,owned:=fV t.owned a })):=hid (by
    unfold jX;rw[if_pos ⟨p1,by dsimp only;omega⟩]
    simp only[Int.toNat_natCast,if_pos pz,hf];rfl)
   clear p1 p2 pz hf
   go_enter Tryd.func51,Tryd.ntmps51
   go_wp2_with fail
   go_quiet ((go_at_call 81;exact Calls.quiet_of_same (HL.out _)))
   go_wp2_with fail
   refine(HV.out _).mono ?_
   rintro e' w1 ⟨rfl,rfl⟩
   go_wp2_with fail
   go_ret
   (apply cZ HR.out rfl;(focus (repeat (first | (with_reducible exact HK.out) | (with_reducible apply aY.drew) | (with_reducible apply aY.alloc) | (with_reducible apply aY.drewN) | (with_reducible apply aY.gU;any_goals (exact HI.out)) | (with_reducible apply aY.jO;any_goals (first | (exact HI.out) | decide)) | (with_reducible apply aY.gV;any_goals (exact HA.out)) | (with_reducible apply aY.jP;any_goals (first | (exact HA.out) | decide)) | (with_reducible apply aY.di))));(exact⟨rfl,rfl⟩);((try simp only[aK]);exact aS _ _ _ _ _ _ HG.out rfl);((try simp only[aK]);exact aS _ _ _ _ _ _ HS.out rfl);(repeat (first | (with_reducible exact HT1.out) | (with_reducible exact Turn.refl _ _) | (with_reducible refine Turn.drew ?_) | (with_reducible refine Turn.alloc ?_ _) | (with_reducible refine Turn.drewN ?_ _) | (with_reducible refine Turn.setCell ?_ (Or.inl (by simp)) _))))
  ·rw[hf]at t12
   have HR:Hid (jX s t ⟨kind,i,tx,a,v,x,why⟩=some ((s.setSt a (-1,s.jD a)).aI i { t with at_:=9,owned:=fV t.owned a })):=hid (by
    unfold jX;rw[if_pos ⟨p1,by dsimp only;omega⟩]
    simp only[Int.toNat_natCast,if_pos pz,hf];rfl)
   clear p1 p2 pz hf
   go_enter Tryd.func51,Tryd.ntmps51
   go_wp2_with fail
   go_quiet ((go_at_call 81;exact Calls.quiet_of_same (HL.out _)))
   go_wp2_with fail
   refine(HV.out _).mono ?_
   rintro e' w1 ⟨rfl,rfl⟩
   go_wp2_with fail
   go_ret
   (apply cZ HR.out rfl;(focus (repeat (first | (with_reducible exact HK.out) | (with_reducible apply aY.drew) | (with_reducible apply aY.alloc) | (with_reducible apply aY.drewN) | (with_reducible apply aY.gU;any_goals (exact HI.out)) | (with_reducible apply aY.jO;any_goals (first | (exact HI.out) | decide)) | (with_reducible apply aY.gV;any_goals (exact HA.out)) | (with_reducible apply aY.jP;any_goals (first | (exact HA.out) | decide)) | (with_reducible apply aY.di))));(exact⟨rfl,rfl⟩);((try simp only[aK]);exact aS _ _ _ _ _ _ HG.out rfl);((try simp only[aK]);exact aS _ _ _ _ _ _ HS.out rfl);(repeat (first | (with_reducible exact HT1.out) | (with_reducible exact Turn.refl _ _) | (with_reducible refine Turn.drew ?_) | (with_reducible refine Turn.alloc ?_ _) | (with_reducible refine Turn.drewN ?_ _) | (with_reducible refine Turn.setCell ?_ (Or.inl (by simp)) _))))
 ·have kz:(((fV t.owned a:Nat):Int)==0)=false:=by simp;exact pz
  have HR:Hid (jX s t ⟨kind,i,tx,a,v,x,why⟩=some ((s.setSt a (-1,s.jD a)).aI i { t with at_:=7,owned:=fV t.owned a })):=hid (by
   unfold jX;rw[if_pos ⟨p1,by dsimp only;omega⟩]
   simp only[Int.toNat_natCast,if_neg pz])
  have LD:Hid (t.at_=7):=hid p1
  clear p1 p2 pz
  go_enter Tryd.func51,Tryd.ntmps51
  go_wp2_with fail
  go_quiet ((go_at_call 81;exact Calls.quiet_of_same (HL.out _)))
  go_wp2_with fail
  refine(HV.out _).mono ?_
  rintro e' w1 ⟨rfl,rfl⟩
  go_wp2_with fail
  go_ret
  (apply cZ HR.out rfl;(focus (repeat (first | (with_reducible exact HK.out) | (with_reducible apply aY.drew) | (with_reducible apply aY.alloc) | (with_reducible apply aY.drewN) | (with_reducible apply aY.gU;any_goals (exact HI.out)) | (with_reducible apply aY.jO;any_goals (first | (exact HI.out) | decide)) | (with_reducible apply aY.gV;any_goals (exact HA.out)) | (with_reducible apply aY.jP;any_goals (first | (exact HA.out) | decide)) | (with_reducible apply aY.di))));(exact⟨rfl,rfl⟩);((try simp only[aK]);exact aS _ _ _ _ _ _ HG.out (by show List.set (vU t) 7 _=_;unfold vU;rw[LD.out];rfl));((try simp only[aK]);exact aS _ _ _ _ _ _ HS.out rfl);(repeat (first | (with_reducible exact HT1.out) | (with_reducible exact Turn.refl _ _) | (with_reducible refine Turn.drew ?_) | (with_reducible refine Turn.alloc ?_ _) | (with_reducible refine Turn.drewN ?_ _) | (with_reducible refine Turn.setCell ?_ (Or.inl (by simp)) _))))
end
end Go.Proofs.YtcddlnmcjmhbcaaDoor
-- short
