/-
  The checker; walks: Begin, Wait.
-/
import Derived.Test.YtcddlnmcjmhbcaaDoorShC2
namespace Go.Proofs.YtcddlnmcjmhbcaaDoor
set_option linter.unusedVariables false
open Go Go.RowKit
theorem DV (a:Nat) (ha:a < 32):((2:Int) ^ a % 4294967296)=((2 ^ a:Nat):Int):=by
 have h2:(2:Nat) ^ a < 4294967296:=Nat.pow_lt_pow_right (a:=2) (n:=32) (by decide) ha
 rw[show((2:Int) ^ a)=((2 ^ a:Nat):Int)from(Int.natCast_pow 2 a).symm]
 generalize (2:Nat) ^ a=p at*
 omega
theorem or_bit (m a:Nat) (hm:m < 4294967296) (ha:a < 32):bits .or .u32 (m:Int) (2 ^ a % 4294967296)=((qf m a:Nat):Int):=by
 rw[DV a ha,u32_or_nat m (2 ^ a) hm (Nat.pow_lt_pow_right (a:=2) (n:=32) (by decide) ha)];rfl
theorem I7 (m a:Nat) (hm:m < 4294967296) (ha:a < 32):bits .andNot .u32 (m:Int) (2 ^ a % 4294967296)=((fV m a:Nat):Int):=by
 have h2:(2:Nat) ^ a < 4294967296:=Nat.pow_lt_pow_right (a:=2) (n:=32) (by decide) ha
 rw[DV a ha,u32_andNot_nat m (2 ^ a) hm h2]
 congr 1
 apply Nat.eq_of_testBit_eq
 intro i
 have e:4294967295-2 ^ a=2 ^ 32-(2 ^ a+1):=by omega
 rw[iE,Nat.testBit_and,e,Nat.testBit_two_pow_sub_succ h2,Nat.testBit_two_pow]
 by_cases hi:i < 32
 ·simp[hi]
 ·rw[Nat.testBit_lt_two_pow (Nat.lt_of_lt_of_le (show m < 2 ^ 32 from hm) (Nat.pow_le_pow_right (by omega) (by omega)))]
  simp
def mG (w:World) (c tb sb:Nat) (s:Sh) (ev:Nat) (r:Option Sh) (e:Ending) (w':World):Prop:=
 e=.returned (.bool r.isSome)∧fK w' c tb sb (r.getD s) ev∧Turn [c,tb,sb] w w'
theorem bD {α:Type} {l:List α} {i:Nat} {d t:α} (hi:i < l.length) (he:l.getD i d=t):l[i]? =some t:=by
 rw[←he];simp only[List.getD,List.getElem?_eq_getElem hi,Option.getD_some]
theorem aS {α:Type} (L:List α) (f:α→List Value) (i:Nat) (g:List Value→List Value) (x t:α) (hi:L[i]? =some t) (h:g (f t)=f x):(L.map f).modify i g=(L.set i x).map f:=by
 obtain⟨h1,h2⟩:=List.getElem?_eq_some_iff.1 hi
 exact Gn L f i g x h1 (by rw[h2];exact h)
theorem aV {w w':World} {c tb sb:Nat} {s:Sh} {ev:Nat} {r:Option Sh} {e:Ending} (hr:r=none) (h:fK w c tb sb s ev) (he:e=.returned (.bool false)) (hb:Below w.heap.size w w'):mG w c tb sb s ev r e w':=by
 subst hr
 exact⟨he,h.below hb,Turn.of_below hb⟩
theorem cZ {w w':World} {c tb sb:Nat} {s s':Sh} {ev:Nat} {r:Option Sh} {e:Ending} {vars clock:Int} {R S:List (List Value)} (hr:r=some s') (he:e=.returned (.bool true))
  (hk:aY w' c tb sb s.aN.length s.aX.length vars clock ev R S) (h1:vars=s'.vars∧clock=s'.clock) (h2:R=s'.aN.map vU) (h3:S=s'.aX.map lU) (ht:Turn [c,tb,sb] w w'):mG w c tb sb s ev r e w':=by
 subst hr
 obtain⟨rfl,rfl⟩:=h1
 subst h2;subst h3
 refine⟨he,?_,ht⟩
 have e1:s.aN.length=s'.aN.length:=by have:=hk.nt;simpa using this.symm
 have e2:s.aX.length=s'.aX.length:=by have:=hk.ns;simpa using this.symm
 rw[e1,e2]at hk
 exact hk
section
variable {w:World} {c tb sb:Nat} {s:Sh} {ev:Nat}
set_option maxRecDepth 100000 in
set_option maxHeartbeats 4000000 in
theorem KN (h:fK w c tb sb s ev) (i:Nat) (hi:i < s.aN.length) {t:Th} (he:s.aN.getD i Th.zero=t) (kind tx at_ v x why:Int):
  Calls Tryd.prog 41 #[.pointer (some ⟨c,0,none⟩),.pointer (some ⟨tb,i*13,none⟩),.agg #[.int .u8 kind,.int .i64 (i:Int),.int .i64 tx,.int .i64 at_,.int .i64 v,.int .i64 x,.int .u8 why]] w
   (mG w c tb sb s ev (iU s t ⟨kind,i,tx,at_,v,x,why⟩)):=by
 obtain⟨c0,c1,c2,c3,c4⟩:=h.cells
 obtain⟨t0,t1,t2,t3,t4,t5,t6,t7,t8,t9,t10,t11,t12⟩:=h.t hi he
 have f1:w.frozen? ⟨c,1,none⟩=false:=h.ck.free 1
 have zk:w.frozen? ⟨tb,i*13,none⟩=false:=h.th.free _
 have ft1:w.frozen? ⟨tb,i*13+1,none⟩=false:=h.th.free _
 have ft2:w.frozen? ⟨tb,i*13+2,none⟩=false:=h.th.free _
 have zi:w.frozen? ⟨tb,i*13+3,none⟩=false:=h.th.free _
 have zh:w.frozen? ⟨tb,i*13+4,none⟩=false:=h.th.free _
 have zg:w.frozen? ⟨tb,i*13+5,none⟩=false:=h.th.free _
 have zf:w.frozen? ⟨tb,i*13+6,none⟩=false:=h.th.free _
 have yZ:w.frozen? ⟨tb,i*13+7,none⟩=false:=h.th.free _
 have yY:w.frozen? ⟨tb,i*13+8,none⟩=false:=h.th.free _
 have yX:w.frozen? ⟨tb,i*13+9,none⟩=false:=h.th.free _
 have nV:w.frozen? ⟨tb,i*13+10,none⟩=false:=h.th.free _
 have nU:w.frozen? ⟨tb,i*13+11,none⟩=false:=h.th.free _
 have nT:w.frozen? ⟨tb,i*13+12,none⟩=false:=h.th.free _
 have hcl:=lt_of_cell c0
 have htl:=lt_of_cell t0
 have HH:=hid h
 have HK:Hid (aY w c tb sb s.aN.length s.aX.length s.vars s.clock ev (s.aN.map vU) (s.aX.map lU)):=hid h
 have HE:=hid he
 have HI:=hid hi
 have hne:=h.ne
 have HG:Hid (s.aN[i]? =some t):=hid (bD hi he)
 have hc:(t.at_ !=0)=true∨((t.at_ !=0)=false∧(tx !=t.aP)=true)∨((t.at_ !=0)=false∧(tx !=t.aP)=false∧v < s.clock)∨((t.at_ !=0)=false∧(tx !=t.aP)=false∧decide (v < s.clock)=false):=by
  by_cases h1:t.at_=0 <;> by_cases h2:tx=t.aP <;> by_cases h3:v < s.clock <;> simp[h1,h2,h3]
 clear h he hi
 rcases hc with k1 | ⟨k1,k2⟩ | ⟨k1,k2,k3⟩ | ⟨k1,k2,k3⟩
 ·have HR:Hid (iU s t ⟨kind,i,tx,at_,v,x,why⟩=none):=hid (by unfold iU;rw[if_neg];simp at k1;simp[k1])
  go_enter Tryd.func41,Tryd.ntmps41
  go_wp2_with fail
  go_quiet (fail)
  go_wp2_with fail
  go_ret
  exact aV HR.out HH.out rfl (ai (by repeat (first | assumption | exact af _ | refine aj ?_ | refine ah ?_ _ | refine ag ?_ (by assumption))) _)
 ·have HR:Hid (iU s t ⟨kind,i,tx,at_,v,x,why⟩=none):=hid (by unfold iU;rw[if_neg];simp at k2;simp[k2])
  go_enter Tryd.func41,Tryd.ntmps41
  go_wp2_with fail
  go_quiet (fail)
  go_wp2_with fail
  go_ret
  exact aV HR.out HH.out rfl (ai (by repeat (first | assumption | exact af _ | refine aj ?_ | refine ah ?_ _ | refine ag ?_ (by assumption))) _)
 ·have HR:Hid (iU s t ⟨kind,i,tx,at_,v,x,why⟩=none):=hid (by unfold iU;rw[if_neg];simp;omega)
  go_enter Tryd.func41,Tryd.ntmps41
  go_wp2_with fail
  go_quiet (fail)
  go_wp2_with fail
  go_ret
  exact aV HR.out HH.out rfl (ai (by repeat (first | assumption | exact af _ | refine aj ?_ | refine ah ?_ _ | refine ag ?_ (by assumption))) _)
 ·have HR:=hid (show iU s t ⟨kind,i,tx,at_,v,x,why⟩=_ from if_pos ⟨by simpa using k1,by simpa using k2,by simpa using k3⟩)
  go_enter Tryd.func41,Tryd.ntmps41
  go_wp2_with fail
  go_quiet (fail)
  go_wp2_with fail
  go_region
  all_goals (
   go_wp2_with fail
   go_ret
   (apply cZ HR.out rfl;(focus (repeat (first | (with_reducible exact HK.out) | (with_reducible apply aY.drew) | (with_reducible apply aY.alloc) | (with_reducible apply aY.drewN) | (with_reducible apply aY.gU;any_goals (exact HI.out)) | (with_reducible apply aY.jO;any_goals (first | (exact HI.out) | decide)) | (with_reducible apply aY.gV;any_goals (exact HA.out)) | (with_reducible apply aY.jP;any_goals (first | (exact HA.out) | decide)) | (with_reducible apply aY.di))));(exact⟨rfl,rfl⟩);((try simp only[aK]);exact aS _ _ _ _ _ _ HG.out rfl);rfl;(repeat (first | (with_reducible exact HT1.out) | (with_reducible exact Turn.refl _ _) | (with_reducible refine Turn.drew ?_) | (with_reducible refine Turn.alloc ?_ _) | (with_reducible refine Turn.drewN ?_ _) | (with_reducible refine Turn.setCell ?_ (Or.inl (by simp)) _)))))
end
end Go.Proofs.YtcddlnmcjmhbcaaDoor
-- short
