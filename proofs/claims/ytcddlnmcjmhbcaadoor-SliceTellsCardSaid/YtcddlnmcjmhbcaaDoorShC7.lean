/-
  The checker; walks: Store.
-/
import Derived.Test.YtcddlnmcjmhbcaaDoorShC3
import Derived.IntWalk
import Derived.Laws.ShiftsVarLaws
namespace Go.Proofs.YtcddlnmcjmhbcaaDoor
set_option linter.unusedVariables false
open Go Go.RowKit
theorem Iu (m q:Nat) (hm:m < 4294967296):bits .and .u32 ((m:Int) / 2 ^ q) 1=if m.testBit q then 1 else 0:=by
 have e:(m:Int) / 2 ^ q=((m / 2 ^ q:Nat):Int):=by
  rw[show((2:Int) ^ q)=((2 ^ q:Nat):Int)from(Int.natCast_pow 2 q).symm];exact(Int.natCast_ediv m (2 ^ q)).symm
 have h1:m / 2 ^ q < 4294967296:=Nat.lt_of_le_of_lt (Nat.div_le_self _ _) hm
 rw[e,show(1:Int)=((1:Nat):Int)from rfl,u32_and_nat _ 1 h1 (by omega),Nat.and_one_is_mod,Nat.testBit_eq_decide_div_mod_eq]
 have h2:m / 2 ^ q % 2=0∨m / 2 ^ q % 2=1:=by omega
 rcases h2 with h2 | h2 <;> simp[h2]
section
variable {w:World} {c tb sb:Nat} {s:Sh} {ev:Nat}
set_option maxRecDepth 100000 in
set_option maxHeartbeats 4000000 in
theorem Jq (h:fK w c tb sb s ev) (i:Nat) (hi:i < s.aN.length) {t:Th} (he:s.aN.getD i Th.zero=t) (hm1:t.owned < 4294967296) (hm2:t.stored < 4294967296) (a q:Nat) (hn:1≤s.aX.length) (hn32:s.aX.length≤32) (hq:(a:Int) % (s.aX.length:Int)=(q:Int)) (kind tx v x why:Int):
  Calls Tryd.prog 48 #[.pointer (some ⟨c,0,none⟩),.pointer (some ⟨tb,i*13,none⟩),.agg #[.int .u8 kind,.int .i64 (i:Int),.int .i64 tx,.int .i64 (a:Int),.int .i64 v,.int .i64 x,.int .u8 why]] w
   (mG w c tb sb s ev (jb s t ⟨kind,i,tx,a,v,x,why⟩)):=by
 obtain⟨c0,c1,c2,c3,c4⟩:=h.cells
 obtain⟨t0,t1,t2,t3,t4,t5,t6,t7,t8,t9,t10,t11,t12⟩:=h.t hi he
 have f1:w.frozen? ⟨c,1,none⟩=false:=h.ck.free 1
 have zk:w.frozen? ⟨tb,i*13,none⟩=false:=h.th.free _
 have zi:w.frozen? ⟨tb,i*13+3,none⟩=false:=h.th.free _
 have zh:w.frozen? ⟨tb,i*13+4,none⟩=false:=h.th.free _
 have zg:w.frozen? ⟨tb,i*13+5,none⟩=false:=h.th.free _
 have zf:w.frozen? ⟨tb,i*13+6,none⟩=false:=h.th.free _
 have yZ:w.frozen? ⟨tb,i*13+7,none⟩=false:=h.th.free _
 have yY:w.frozen? ⟨tb,i*13+8,none⟩=false:=h.th.free _
 have yX:w.frozen? ⟨tb,i*13+9,none⟩=false:=h.th.free _
 have nV:w.frozen? ⟨tb,i*13+10,none⟩=false:=h.th.free _
 have nU:w.frozen? ⟨tb,i*13+11,none⟩=false:=h.th.free _
 have nT:w.frozen? ⟨tb,i*13+12,none⟩=false:=h.th.free _
 have hcl:=lt_of_cell c0
 have htl:=lt_of_cell t0
 have HH:=hid h
 have HK:Hid (aY w c tb sb s.aN.length s.aX.length s.vars s.clock ev (s.aN.map vU) (s.aX.map lU)):=hid h
 have HI:=hid hi
 have hne:=h.ne
 have HG:Hid (s.aN[i]? =some t):=hid (bD hi he)
 have HE:=hid he
 have NP:(0:Int)≤(a:Int):=by omega
 have gn:(1:Int)≤(s.aX.length:Int):=by omega
 have gn2:(0:Int) < (s.aX.length:Int):=by omega
 have SV:q < 32:=by have:=Int.emod_lt_of_pos (a:Int) gn2;omega
 have hmod:(a:Int).tmod (s.aX.length:Int)=(q:Int):=by rw[Int.tmod_eq_emod_of_nonneg NP];exact hq
 have gq0:(0:Int)≤(q:Int):=by omega
 have hor:=or_bit t.stored q hm2 SV
 have Zk:Hid (((a:Int) % s.n).toNat=q):=hid (by show((a:Int) % (s.aX.length:Int)).toNat=q;omega)
 clear h he hi
 by_cases p1:t.at_=5
 case neg=>
  have k1:(t.at_ !=5)=true:=by simpa using p1
  have HR:=hid (show jb s t ⟨kind,i,tx,a,v,x,why⟩=none from if_neg (fun hh=>p1 hh.1))
  clear p1
  go_enter Tryd.func48,Tryd.ntmps48
  go_wp2_with fail
  go_quiet (fail)
  go_wp2_with fail
  go_quiet (fail)
  go_wp2_with fail
  go_ret
  exact aV HR.out HH.out rfl (ai (ai (by repeat (first | assumption | exact af _ | refine aj ?_ | refine ah ?_ _ | refine ag ?_ (by assumption))) _) _)
 have k1:(t.at_ !=5)=false:=by simpa using p1
 by_cases p2:t.var < (a:Int)
 case neg=>
  have k2:(a:Int)≤t.var:=by omega
  have HR:=hid (show jb s t ⟨kind,i,tx,a,v,x,why⟩=none from if_neg (fun hh=>p2 hh.2.1))
  clear p1 p2
  go_enter Tryd.func48,Tryd.ntmps48
  go_wp2_with fail
  go_quiet (fail)
  go_wp2_with fail
  go_quiet (fail)
  go_wp2_with fail
  go_ret
  exact aV HR.out HH.out rfl (ai (ai (by repeat (first | assumption | exact af _ | refine aj ?_ | refine ah ?_ _ | refine ag ?_ (by assumption))) _) _)
 have k2:decide ((a:Int)≤t.var)=false:=decide_eq_false (by omega)
 have hb:=Iu t.owned q hm1
 by_cases p3:t.owned.testBit q=true
 case neg=>
  rw[if_neg p3]at hb
  have HR:=hid (show jb s t ⟨kind,i,tx,a,v,x,why⟩=none from if_neg (fun hh=>p3 (by have:=hh.2.2;rw[Zk.out]at this;exact this)))
  clear p1 p2 p3
  go_enter Tryd.func48,Tryd.ntmps48
  go_wp2_with fail
  go_quiet (fail)
  go_wp2_with fail
  go_quiet (fail)
  go_wp2_with fail
  go_ret
  exact aV HR.out HH.out rfl (ai (ai (by repeat (first | assumption | exact af _ | refine aj ?_ | refine ah ?_ _ | refine ag ?_ (by assumption))) _) _)
 rw[if_pos p3]at hb
 have HR:Hid (jb s t ⟨kind,i,tx,a,v,x,why⟩=some (s.aI i { t with var:=a,stored:=qf t.stored q })):=hid (by
  unfold jb;rw[if_pos ⟨p1,p2,by dsimp only;rw[Zk.out];exact p3⟩];dsimp only;rw[Zk.out])
 clear p1 p2 p3
 go_enter Tryd.func48,Tryd.ntmps48
 go_wp2_with fail
 go_quiet (fail)
 go_wp2_with fail
 go_quiet (fail)
 go_wp2_with fail
 go_region
 all_goals (
  go_wp2_with fail
  go_ret
  (apply cZ HR.out rfl;(focus (repeat (first | (with_reducible exact HK.out) | (with_reducible apply aY.drew) | (with_reducible apply aY.alloc) | (with_reducible apply aY.drewN) | (with_reducible apply aY.gU;any_goals (exact HI.out)) | (with_reducible apply aY.jO;any_goals (first | (exact HI.out) | decide)) | (with_reducible apply aY.gV;any_goals (exact HA.out)) | (with_reducible apply aY.jP;any_goals (first | (exact HA.out) | decide)) | (with_reducible apply aY.di))));(exact⟨rfl,rfl⟩);((try simp only[aK]);exact aS _ _ _ _ _ _ HG.out rfl);rfl;(repeat (first | (with_reducible exact HT1.out) | (with_reducible exact Turn.refl _ _) | (with_reducible refine Turn.drew ?_) | (with_reducible refine Turn.alloc ?_ _) | (with_reducible refine Turn.drewN ?_ _) | (with_reducible refine Turn.setCell ?_ (Or.inl (by simp)) _)))))
end
end Go.Proofs.YtcddlnmcjmhbcaaDoor
-- short
