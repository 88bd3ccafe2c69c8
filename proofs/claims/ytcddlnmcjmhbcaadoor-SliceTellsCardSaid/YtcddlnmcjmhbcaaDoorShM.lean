/-
  Walks: event.May.
-/
import Derived.Test.YtcddlnmcjmhbcaaDoorShQ
import Derived.Deep.DeepCutAuto
import Derived.Deep.CutBlock
import Derived.IntWalk
namespace Go.Proofs.YtcddlnmcjmhbcaaDoor
set_option linter.unusedVariables false
open Go Go.RowKit
theorem qh {P:Program} {f:FuncId} {args:Array Value} {w:World} {n:Nat} {v:Value}
  (h:Calls P f args (w.drewN n) fun e w'=>e=.returned v∧w.drewN n=w'):Calls P f args (w.drewN n) fun e w''=>e=.returned v∧∃ m,w''=w.drewN m:=
 h.mono fun _ _ ⟨he,hm⟩=>⟨he,n,hm.symm⟩
def OL (e:Ev):Prop:=∀ w:World,bn w→Calls Tryd.prog 78 #[jL e] w fun e' w'=>e'=.returned (.agg #[.int .u8 (aT e).kind,.int .i64 (aT e).th,.int .i64 (aT e).tx,.int .i64 (aT e).at_,.int .i64 (aT e).v,.int .i64 (aT e).x,.int .u8 (aT e).why])∧Below w.heap.size w w'
set_option maxRecDepth 100000 in
set_option maxHeartbeats 4000000 in
theorem JW (e:Ev) (T V S:Int) (w:World) (h:(kD T V S&&inB e.kind 1 13)=false):
  Calls Tryd.prog 40 #[jL e,.int .i64 T,.int .i64 V,.int .i64 S] w fun e' w'=>e'=.returned (.bool false)∧Below w.heap.size w w':=by
 have hc:inB T 1 6=false∨(inB T 1 6=true∧inB V 1 32=false)∨(inB T 1 6=true∧inB V 1 32=true∧inB S 1 V=false)∨(inB T 1 6=true∧inB V 1 32=true∧inB S 1 V=true∧inB e.kind 1 13=false):=by
  unfold kD inB at*
  simp only[Bool.and_eq_false_iff,decide_eq_false_iff_not,decide_eq_true_eq]at*
  omega
 clear h
 dsimp only[jL]
 rcases hc with h | ⟨h1,h2⟩ | ⟨h1,h2,h3⟩ | ⟨h1,h2,h3,h4⟩
 all_goals
  go_enter Tryd.func40,Tryd.ntmps40
  go_wp2_with (first | (go_at_call 76;refine(iD _ _ _ _).mono ?_;rintro e' w1 ⟨rfl,rfl⟩) | (go_at_call 77;refine(sQ _ _).mono ?_;rintro e' w1 ⟨rfl,rfl⟩))
  go_ret
  exact⟨rfl,by repeat (first | assumption | exact af _ | refine aj ?_ | refine ah ?_ _ | refine ag ?_ (by assumption))⟩
set_option maxRecDepth 100000 in
set_option maxHeartbeats 4000000 in
theorem P5 (e:Ev) (T V S:Int) (w:World) (h1:inB T 1 6=true) (h2:inB V 1 32=true) (h3:inB S 1 V=true) (h4:inB e.kind 1 13=true) (hk:e.kind=10) (hw:e.why < 1∨6 < e.why):
  Calls Tryd.prog 40 #[jL e,.int .i64 T,.int .i64 V,.int .i64 S] w fun e' w'=>e'=.returned (.bool false)∧Below w.heap.size w w':=by
 dsimp only[jL]
 have k5:(e.kind==5)=false:=by rw[beq_eq_false_iff_ne];omega
 have k3:(e.kind==3)=false:=by rw[beq_eq_false_iff_ne];omega
 have k8:(e.kind==8)=false:=by rw[beq_eq_false_iff_ne];omega
 have k10:(e.kind==10)=true:=by rw[beq_iff_eq];omega
 have y6:(e.why==6)=false:=by rw[beq_eq_false_iff_ne];omega
 clear hk
 rcases hw with y1 | y2
 ·go_enter Tryd.func40,Tryd.ntmps40
  go_wp2_with (first | (go_at_call 76;refine(iD _ _ _ _).mono ?_;rintro e' w1 ⟨rfl,rfl⟩) | (go_at_call 77;refine(sQ _ _).mono ?_;rintro e' w1 ⟨rfl,rfl⟩))
  go_ret
  exact⟨rfl,by repeat (first | assumption | exact af _ | refine aj ?_ | refine ah ?_ _ | refine ag ?_ (by assumption))⟩
 ·have y1:decide (e.why < 1)=false:=by rw[decide_eq_false_iff_not];omega
  go_enter Tryd.func40,Tryd.ntmps40
  go_wp2_with (first | (go_at_call 76;refine(iD _ _ _ _).mono ?_;rintro e' w1 ⟨rfl,rfl⟩) | (go_at_call 77;refine(sQ _ _).mono ?_;rintro e' w1 ⟨rfl,rfl⟩))
  go_ret
  exact⟨rfl,by repeat (first | assumption | exact af _ | refine aj ?_ | refine ah ?_ _ | refine ag ?_ (by assumption))⟩
def lastB (e:Ev) (T V S:Int):Bool:=inB e.th 0 (T-1)&&inB e.tx 0 5&&inB e.v (je e) 1099511627776&&inB e.at_ 0 (dV e V S-1)
set_option maxRecDepth 100000 in
set_option maxHeartbeats 4000000 in
theorem ML (e:Ev) (T V S:Int) (w:World) (hb:OL e) (hK:bn w) (h1:inB T 1 6=true) (h2:inB V 1 32=true) (h3:inB S 1 V=true) (h4:inB e.kind 1 13=true) (hw:e.kind=10→1≤e.why∧e.why≤6):
  Calls Tryd.prog 40 #[jL e,.int .i64 T,.int .i64 V,.int .i64 S] w fun e' w'=>e'=.returned (.bool (lastB e T V S&&oL e (aT e)))∧Below w.heap.size w w':=by
 have HP:=hid hb
 clear hb
 have HK:=hid hK
 clear hK
 have bT:1≤T∧T≤6:=by simpa[inB]using h1
 have bV:1≤V∧V≤32:=by simpa[inB]using h2
 have bS:1≤S∧S≤V:=by simpa[inB]using h3
 dsimp only[jL]
 go_enter Tryd.func40,Tryd.ntmps40
 go_upto_block 0 with(first | (go_at_call 76;refine(iD _ _ _ _).mono ?_;rintro e' w1 ⟨rfl,rfl⟩) | (go_at_call 77;refine(sQ _ _).mono ?_;rintro e' w1 ⟨rfl,rfl⟩))
 go_cut [10,11] (fun s10 s11 w'=>s10=.int .i64 (je e)∧s11=.int .i64 (dV e V S)∧w'=w.alloc (.cells (eG e) 49))
 case first=>
  have hcl:((e.kind==5)=true∧je e=1∧dV e V S=S)∨((e.kind==5)=false∧(e.kind==3)=true∧je e=0∧dV e V S=V)∨((e.kind==5)=false∧(e.kind==3)=false∧(e.kind==8)=true∧je e=0∧dV e V S=V)∨
    ((e.kind==5)=false∧(e.kind==3)=false∧(e.kind==8)=false∧(e.kind==10)=true∧(e.why==6)=true∧decide (e.why < 1)=false∧decide (6 < e.why)=false∧je e=0∧dV e V S=1)∨
    ((e.kind==5)=false∧(e.kind==3)=false∧(e.kind==8)=false∧(e.kind==10)=true∧(e.why==6)=false∧decide (e.why < 1)=false∧decide (6 < e.why)=false∧je e=0∧dV e V S=S)∨
    ((e.kind==5)=false∧(e.kind==3)=false∧(e.kind==8)=false∧(e.kind==10)=false∧je e=0∧dV e V S=S):=by
   unfold je dV
   simp only[beq_eq_false_iff_ne,beq_iff_eq,decide_eq_false_iff_not]
   by_cases k5:e.kind=5
   ·left;simp[k5]
   by_cases k3:e.kind=3
   ·right;left;simp[k3]
   by_cases k8:e.kind=8
   ·right;right;left;simp[k8]
   by_cases k10:e.kind=10
   ·have:=hw k10
    by_cases y6:e.why=6
    ·right;right;right;left;simp[k10,y6]
    ·right;right;right;right;left;simp[k10,y6];omega
   ·right;right;right;right;right;simp[k5,k3,k8,k10]
  clear hw
  rcases hcl with⟨k1,e1,e2⟩ | ⟨k1,k2,e1,e2⟩ | ⟨k1,k2,k3,e1,e2⟩ | ⟨k1,k2,k3,k4,k5,k6,k7,e1,e2⟩ | ⟨k1,k2,k3,k4,k5,k6,k7,e1,e2⟩ | ⟨k1,k2,k3,k4,e1,e2⟩
  all_goals
   have E1:=hid e1
   have E2:=hid e2
   clear e1 e2
   go_wp2_with fail
   go_meet
   exact⟨by rw[E1.out],by rw[E2.out],rfl⟩
 case rest=>
  obtain⟨rfl,rfl,rfl⟩:=hcut
  dsimp only[eG]
  have hcl:(inB e.th 0 (T-1)=false∧lastB e T V S=false)∨(inB e.th 0 (T-1)=true∧inB e.tx 0 5=false∧lastB e T V S=false)∨(inB e.th 0 (T-1)=true∧inB e.tx 0 5=true∧inB e.v (je e) 1099511627776=false∧lastB e T V S=false)∨
    (inB e.th 0 (T-1)=true∧inB e.tx 0 5=true∧inB e.v (je e) 1099511627776=true∧inB e.at_ 0 (dV e V S-1)=false∧lastB e T V S=false)∨(inB e.th 0 (T-1)=true∧inB e.tx 0 5=true∧inB e.v (je e) 1099511627776=true∧inB e.at_ 0 (dV e V S-1)=true∧lastB e T V S=true):=by
   unfold lastB
   cases inB e.th 0 (T-1) <;> cases inB e.tx 0 5 <;> cases inB e.v (je e) 1099511627776 <;> cases inB e.at_ 0 (dV e V S-1) <;> simp
  have bP:1≤dV e V S∧dV e V S≤32:=by unfold dV;split;omega;split <;> omega
  clear hw
  have q1:IntKind.i64.wrap (T-1)=T-1:=IntWalk.i64_in _ (by omega)
  have q2:IntKind.i64.wrap (dV e V S-1)=dV e V S-1:=IntWalk.i64_in _ (by omega)
  clear bP bT bV bS
  have hcmp:=tZ e (aT e)
  unfold Op.equal Op.maxDepth at hcmp
  have X1:=hid h1
  have X2:=hid h2
  clear h1 h2 h3 h4
  rcases hcl with⟨k1,e1⟩ | ⟨k1,k2,e1⟩ | ⟨k1,k2,k3,e1⟩ | ⟨k1,k2,k3,k4,e1⟩ | ⟨k1,k2,k3,k4,e1⟩
  ·have E1:=hid e1
   clear e1
   go_wp2_with fail
   go_quiet ((go_at_call 76;exact qh (iD _ _ _ _)))
   go_wp2_with fail
   go_ret
   exact⟨by rw[E1.out];rfl,ai (by repeat (first | assumption | exact af _ | refine aj ?_ | refine ah ?_ _ | refine ag ?_ (by assumption))) _⟩
  ·have E1:=hid e1
   clear e1
   go_wp2_with fail
   go_quiet ((go_at_call 76;exact qh (iD _ _ _ _)))
   go_wp2_with fail
   go_ret
   exact⟨by rw[E1.out];rfl,ai (by repeat (first | assumption | exact af _ | refine aj ?_ | refine ah ?_ _ | refine ag ?_ (by assumption))) _⟩
  ·have E1:=hid e1
   clear e1
   go_wp2_with fail
   go_quiet ((go_at_call 76;exact qh (iD _ _ _ _)))
   go_wp2_with fail
   go_ret
   exact⟨by rw[E1.out];rfl,ai (by repeat (first | assumption | exact af _ | refine aj ?_ | refine ah ?_ _ | refine ag ?_ (by assumption))) _⟩
  ·have E1:=hid e1
   clear e1
   go_wp2_with fail
   go_quiet ((go_at_call 76;exact qh (iD _ _ _ _)))
   go_wp2_with fail
   go_ret
   exact⟨by rw[E1.out];rfl,ai (by repeat (first | assumption | exact af _ | refine aj ?_ | refine ah ?_ _ | refine ag ?_ (by assumption))) _⟩
  ·have E1:=hid e1
   clear e1
   go_wp2_with fail
   go_region_held3 (fun w'=>w'.cell? ⟨w.heap.size,0,none⟩=some (.int .u8 e.kind)∧w'.cell? ⟨w.heap.size,1,none⟩=some (.int .i64 e.th)∧w'.cell? ⟨w.heap.size,2,none⟩=some (.int .i64 e.tx)∧w'.cell? ⟨w.heap.size,3,none⟩=some (.int .i64 e.at_)∧w'.cell? ⟨w.heap.size,4,none⟩=some (.int .i64 e.v)∧w'.cell? ⟨w.heap.size,5,none⟩=some (.int .i64 e.x)∧w'.cell? ⟨w.heap.size,6,none⟩=some (.int .u8 e.why)) (first | go_keep | (refine⟨later hb1 ?_,later hb1 ?_,later hb1 ?_,later hb1 ?_,later hb1 ?_,later hb1 ?_,later hb1 ?_⟩ <;> go_keep)) (first | (go_at_call 76;refine(iD _ _ _ _).mono ?_;rintro e' w1 ⟨rfl,rfl⟩) | (go_at_call 78;refine(HP.out _ ?_).mono ?_;exact HK.out.below (by repeat (first | assumption | exact af _ | refine aj ?_ | refine ah ?_ _ | refine ag ?_ (by assumption)));rintro e' w1 ⟨rfl,hb1⟩))
   go_wp2_with fail
   go_ret
   exact⟨by rw[E1.out];rfl,by repeat (first | assumption | exact af _ | refine aj ?_ | refine ah ?_ _ | refine ag ?_ (by assumption))⟩
end Go.Proofs.YtcddlnmcjmhbcaaDoor
-- short
