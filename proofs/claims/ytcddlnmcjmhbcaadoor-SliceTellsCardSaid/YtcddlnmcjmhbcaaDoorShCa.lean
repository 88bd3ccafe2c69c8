/-
  The checker; walks: Abort.
-/
import Derived.Test.YtcddlnmcjmhbcaaDoorShC9
import Derived.Deep.DeepCutAuto
import Derived.Deep.CutBlock
namespace Go.Proofs.YtcddlnmcjmhbcaaDoor
set_option linter.unusedVariables false
open Go Go.RowKit
section
variable {w:World} {c tb sb:Nat} {s:Sh} {ev:Nat}
set_option maxRecDepth 100000 in
set_option maxHeartbeats 4000000 in
theorem KU (h:fK w c tb sb s ev) (hT:gJ w) (i:Nat) (hi:i < s.aN.length) {t:Th} (he:s.aN.getD i Th.zero=t) (hm:t.check < 4294967296) (q:Nat) (hq:t.dJ=(q:Int)) (SS:q < s.aX.length) (a:Nat) (ha:a < s.aX.length) (kind tx v x why:Int) (hy:1≤why∧why≤6):
    Calls Tryd.prog 50 #[.pointer (some ⟨c,0,none⟩),.pointer (some ⟨tb,i*13,none⟩),.agg #[.int .u8 kind,.int .i64 (i:Int),.int .i64 tx,.int .i64 (a:Int),.int .i64 v,.int .i64 x,.int .u8 why]] w
      (mG w c tb sb s ev (jk s t ⟨kind,i,tx,a,v,x,why⟩)):=by
  obtain⟨c0,c1,c2,c3,c4⟩:=h.cells
  obtain⟨t0,t1,t2,t3,t4,t5,t6,t7,t8,t9,t10,t11,t12⟩:=h.t hi he
  have f1:w.frozen? ⟨c,1,none⟩=false:=h.ck.free 1
  have zk:w.frozen? ⟨tb,i*13,none⟩=false:=h.th.free _
  have zi:w.frozen? ⟨tb,i*13+3,none⟩=false:=h.th.free _
  have zh:w.frozen? ⟨tb,i*13+4,none⟩=false:=h.th.free _
  have zg:w.frozen? ⟨tb,i*13+5,none⟩=false:=h.th.free _
  have zf:w.frozen? ⟨tb,i*13+6,none⟩=false:=h.th.free _
  have yZ:w.frozen? ⟨tb,i*13+7,none⟩=false:=h.th.free _
  have yY:w.frozen? ⟨tb,i*13+8,none⟩=false:=h.th.free _
  have yX:w.frozen? ⟨tb,i*13+9,none⟩=false:=h.th.free _
  have nV:w.frozen? ⟨tb,i*13+10,none⟩=false:=h.th.free _
  have nU:w.frozen? ⟨tb,i*13+11,none⟩=false:=h.th.free _
  have nT:w.frozen? ⟨tb,i*13+12,none⟩=false:=h.th.free _
  have hcl:=lt_of_cell c0
  have htl:=lt_of_cell t0
  have HH:=hid h
  have HK:Hid (aY w c tb sb s.aN.length s.aX.length s.vars s.clock ev (s.aN.map vU) (s.aX.map lU)):=hid h
  have HI:=hid hi
  have hne:=h.ne
  have HG:Hid (s.aN[i]? =some t):=hid (bD hi he)
  have HE:=hid he
  have s0:=(h.si ha).1
  have s1:=(h.si ha).2
  have GY:w.frozen? ⟨sb,a*2,none⟩=false:=h.st.free _
  have GX:w.frozen? ⟨sb,a*2+1,none⟩=false:=h.st.free _
  have NP:(0:Int)≤(a:Int):=by omega
  have UZ:(a:Int) < (s.aX.length:Int):=by omega
  have hsl:=lt_of_cell s0
  have HA:=hid ha
  have HQ:Hid (s.aX[a]? =some (s.own a,s.jD a)):=hid (bD ha rfl)
  have HL2:=hid fun W (hW:Below w.heap.size w W)=>pO t.check hm W (hT.below hW)
  have HO:=hid fun W (hW:Below w.heap.size w W)=>yC (s:=s) (ev:=ev) (aY.below h hW) a ha kind i tx a v x why
  have HN:=hid fun W (hW:Below w.heap.size w W)=>wE (s:=s) (ev:=ev) (aY.below h hW) a ha hi he
  have HF:=hid fun W (hW:Below w.heap.size w W)=>nX (s:=s) (ev:=ev) (aY.below h hW) a ha
  have HST:=hid fun W (hW:Below w.heap.size w W)=>Aj (s:=s) (ev:=ev) (aY.below h hW) hi he hq SS
  rw[hq]at t4
  have b0:=(aA.new w #[.int .u8 kind,.int .i64 (i:Int),.int .i64 tx,.int .i64 (a:Int),.int .i64 v,.int .i64 x,.int .u8 why] 49)
  have HB:=hid b0
  clear b0
  have HQS:=hid hq
  clear h hT he hi ha hq SS
  go_enter Tryd.func50,Tryd.ntmps50
  go_upto_block 0 with(fail)
  go_cut [7] (fun f w'=>f=.bool (dA s t ⟨kind,i,tx,a,v,x,why⟩)∧Below (w.alloc (.cells #[.int .u8 kind,.int .i64 (i:Int),.int .i64 tx,.int .i64 (a:Int),.int .i64 v,.int .i64 x,.int .u8 why] 49)).heap.size (w.alloc (.cells #[.int .u8 kind,.int .i64 (i:Int),.int .i64 tx,.int .i64 (a:Int),.int .i64 v,.int .i64 x,.int .u8 why] 49)) w')
  case first=>
    have hc:(why==1)=true∨((why==1)=false∧(why==2)=true)∨((why==1)=false∧(why==2)=false∧(why==3)=true)∨((why==1)=false∧(why==2)=false∧(why==3)=false∧(why==4)=true)∨
        ((why==1)=false∧(why==2)=false∧(why==3)=false∧(why==4)=false∧(why==5)=true)∨((why==1)=false∧(why==2)=false∧(why==3)=false∧(why==4)=false∧(why==5)=false∧(why==6)=true):=by
      simp only[beq_iff_eq,beq_eq_false_iff_ne];omega
    clear hy
    rcases hc with y1 | ⟨y1,y2⟩ | ⟨y1,y2,y3⟩ | ⟨y1,y2,y3,y4⟩ | ⟨y1,y2,y3,y4,y5⟩ | ⟨y1,y2,y3,y4,y5,y6⟩
    · by_cases p1:t.at_=1
      · have k1:(t.at_==1)=true:=by simpa using p1
        have HR:Hid (dA s t ⟨kind,i,tx,a,v,x,why⟩=s.yD a i):=hid (by unfold dA;simp only[beq_iff_eq]at y1;rw[if_pos y1,decide_eq_true p1];rfl)
        clear p1
        go_wp2_with ((with_reducible refine(HO.out _ ?_).mono ?_);(focus repeat (first | assumption | exact af _ | refine aj ?_ | refine ah ?_ _ | refine ag ?_ (by assumption)));rintro e' w1 ⟨rfl,hb1⟩)
        go_meet
        exact⟨by rw[HR.out],hb1⟩
      · have k1:(t.at_==1)=false:=by simpa using p1
        have HR:Hid (dA s t ⟨kind,i,tx,a,v,x,why⟩=false):=hid (by unfold dA;simp only[beq_iff_eq]at y1;rw[if_pos y1,decide_eq_false p1];rfl)
        clear p1
        go_wp2_with fail
        go_meet
        exact⟨by rw[HR.out],by repeat (first | assumption | exact af _ | refine aj ?_ | refine ah ?_ _ | refine ag ?_ (by assumption))⟩
    · by_cases p1:t.at_=1
      · have k1:(t.at_==1)=true:=by simpa using p1
        by_cases p2:s.own a=-1
        · have k2:(s.own (a:Int)== -1)=true:=by simpa using p2
          have HR:Hid (dA s t ⟨kind,i,tx,a,v,x,why⟩=decide (t.rv < s.jD a)):=hid (by
            unfold dA;simp only[beq_iff_eq,beq_eq_false_iff_ne]at y1 y2;rw[if_neg y1,if_pos y2];simp[p1,p2])
          clear p1 p2
          go_wp2_with (first | ((with_reducible refine(HF.out _ ?_).mono ?_);(focus repeat (first | assumption | exact af _ | refine aj ?_ | refine ah ?_ _ | refine ag ?_ (by assumption)));rintro e' w1 ⟨rfl,rfl⟩) | ((with_reducible refine(HN.out _ ?_).mono ?_);(focus repeat (first | assumption | exact af _ | refine aj ?_ | refine ah ?_ _ | refine ag ?_ (by assumption)));rintro e' w1 ⟨rfl,n2,rfl⟩))
          go_meet
          exact⟨by rw[HR.out],ai (af _) _⟩
        · have k2:(s.own (a:Int)== -1)=false:=by simpa using p2
          have HR:Hid (dA s t ⟨kind,i,tx,a,v,x,why⟩=false):=hid (by
            unfold dA;simp only[beq_iff_eq,beq_eq_false_iff_ne]at y1 y2;rw[if_neg y1,if_pos y2];simp[p2])
          clear p1 p2
          go_wp2_with ((with_reducible refine(HF.out _ ?_).mono ?_);(focus repeat (first | assumption | exact af _ | refine aj ?_ | refine ah ?_ _ | refine ag ?_ (by assumption)));rintro e' w1 ⟨rfl,rfl⟩)
          go_meet
          exact⟨by rw[HR.out],by repeat (first | assumption | exact af _ | refine aj ?_ | refine ah ?_ _ | refine ag ?_ (by assumption))⟩
      · have k1:(t.at_==1)=false:=by simpa using p1
        have HR:Hid (dA s t ⟨kind,i,tx,a,v,x,why⟩=false):=hid (by
          unfold dA;simp only[beq_iff_eq,beq_eq_false_iff_ne]at y1 y2;rw[if_neg y1,if_pos y2];simp[p1])
        clear p1
        go_wp2_with fail
        go_meet
        exact⟨by rw[HR.out],by repeat (first | assumption | exact af _ | refine aj ?_ | refine ah ?_ _ | refine ag ?_ (by assumption))⟩
    · by_cases p1:t.at_=2
      · have k1:(t.at_==2)=true:=by simpa using p1
        by_cases p2:a=q
        · have k2:((a:Int)==(q:Int))=true:=by simp[p2]
          by_cases p3:s.own t.dJ=-1∧s.jD t.dJ=t.v
          · have HR:Hid (dA s t ⟨kind,i,tx,a,v,x,why⟩=false):=hid (by
              unfold dA;simp only[beq_iff_eq,beq_eq_false_iff_ne]at y1 y2 y3;rw[if_neg y1];rw[if_neg y2];rw[if_pos y3];simp[p3])
            have Vp:=decide_eq_true p3
            have P3:=hid Vp
            clear p1 p2 p3 Vp
            go_wp2_with fail
            go_quiet ((go_at_call 80;exact Calls.quiet_of ((HST.out _ (ai (ah (af _) _) _)).mono fun e w' ⟨h1,h2⟩=>⟨by rw[h1,P3.out],h2⟩)))
            go_wp2_with fail
            go_meet
            exact⟨by rw[HR.out],ai (af _) _⟩
          · have HR:Hid (dA s t ⟨kind,i,tx,a,v,x,why⟩=true):=hid (by
              unfold dA;simp only[beq_iff_eq,beq_eq_false_iff_ne]at y1 y2 y3;rw[if_neg y1];rw[if_neg y2];rw[if_pos y3];have SQ:=HQS.out;rw[decide_eq_true];exact⟨p1,by dsimp only;omega,p3⟩)
            have Vp:=decide_eq_false p3
            have P3:=hid Vp
            clear p1 p2 p3 Vp
            go_wp2_with fail
            go_quiet ((go_at_call 80;exact Calls.quiet_of ((HST.out _ (ai (ah (af _) _) _)).mono fun e w' ⟨h1,h2⟩=>⟨by rw[h1,P3.out],h2⟩)))
            go_wp2_with fail
            go_meet
            exact⟨by rw[HR.out],ai (af _) _⟩
        · have k2:((a:Int)==(q:Int))=false:=by simp;omega
          have HR:Hid (dA s t ⟨kind,i,tx,a,v,x,why⟩=false):=hid (by
            unfold dA;simp only[beq_iff_eq,beq_eq_false_iff_ne]at y1 y2 y3;rw[if_neg y1];rw[if_neg y2];rw[if_pos y3];have SQ:=HQS.out;rw[decide_eq_false];intro hh;have:=hh.2.1;dsimp only at this;omega)
          clear p1 p2
          go_wp2_with fail
          go_quiet (fail)
          go_wp2_with fail
          go_meet
          exact⟨by rw[HR.out],ai (af _) _⟩
      · have k1:(t.at_==2)=false:=by simpa using p1
        have HR:Hid (dA s t ⟨kind,i,tx,a,v,x,why⟩=false):=hid (by
          unfold dA;simp only[beq_iff_eq,beq_eq_false_iff_ne]at y1 y2 y3;rw[if_neg y1];rw[if_neg y2];rw[if_pos y3];simp[p1])
        clear p1
        go_wp2_with fail
        go_quiet (fail)
        go_wp2_with fail
        go_meet
        exact⟨by rw[HR.out],ai (af _) _⟩
    · by_cases p2:t.locked < (a:Int)
      · by_cases p1:t.at_=1
        · have k1:(t.at_==1)=true:=by simpa using p1
          have HR:Hid (dA s t ⟨kind,i,tx,a,v,x,why⟩=s.yD a i):=hid (by
            unfold dA;simp only[beq_iff_eq,beq_eq_false_iff_ne]at y1 y2 y3 y4;rw[if_neg y1];rw[if_neg y2];rw[if_neg y3];rw[if_pos y4];rw[decide_eq_true ⟨Or.inl p1,p2⟩];rfl)
          clear p1
          go_wp2_with fail
          apply dN [.pointer (some ⟨tb,i*13,none⟩),.pointer (some ⟨tb,i*13,none⟩),.pointer (some ⟨tb,i*13,none⟩),.int .i64 t.at_,.bool true,.bool true,undef,undef,undef,undef,undef,.bool true,.bool true,.pointer (some ⟨w.heap.size,3,none⟩),.int .i64 (a:Int),.pointer (some ⟨tb,i*13,none⟩),.pointer (some ⟨tb,i*13,none⟩),.pointer (some ⟨tb,i*13+10,none⟩),.int .i64 t.locked,.bool true,.bool true,.bool true,.pointer (some ⟨c,0,none⟩),.pointer (some ⟨w.heap.size,3,none⟩),.int .i64 (a:Int),.agg #[.int .u8 kind,.int .i64 (i:Int),.int .i64 tx,.int .i64 (a:Int),.int .i64 v,.int .i64 x,.int .u8 why],.bool (s.yD a i),.bool (s.yD a i),.bool (s.yD a i)] (fun w'=>Below (w.alloc (.cells #[.int .u8 kind,.int .i64 (i:Int),.int .i64 tx,.int .i64 (a:Int),.int .i64 v,.int .i64 x,.int .u8 why] 49)).heap.size (w.alloc (.cells #[.int .u8 kind,.int .i64 (i:Int),.int .i64 tx,.int .i64 (a:Int),.int .i64 v,.int .i64 x,.int .u8 why] 49)) w')
          focus (simp[ay,aB,Act.put,List.getD];rfl)
          case hm=>kernel_rfl
          case hd=>kernel_rfl
          case hb=>kernel_rfl
          case kJ=>kernel_rfl
          case hsel=>kernel_rfl
          case hsz=>kernel_rfl
          case h0=>exact aj (af _)
          case hstep=>
            repeat' (first | exact trivial | (refine And.intro ?_ ?_))
            all_goals (
              intro w' hG
              first
              | (rw[if_neg (ne_true_of_eq_false (by kernel_rfl))];rfl)
              | (rw[if_pos (by kernel_rfl)]
                 intro K Qp hK
                 have d0:=later hG (aG t0)
                 have d10:=later hG (aG t10)
                 have d20:=later hG (HB.out.cell 0 rfl)
                 have d21:=later hG (HB.out.cell 1 rfl)
                 have d22:=later hG (HB.out.cell 2 rfl)
                 have d23:=later hG (HB.out.cell 3 rfl)
                 have d24:=later hG (HB.out.cell 4 rfl)
                 have d25:=later hG (HB.out.cell 5 rfl)
                 have d26:=later hG (HB.out.cell 6 rfl)
                 have hb0:Below w.heap.size w w':=ag (ah (af _) _) hG
                 have HB0:=hid hb0
                 have jC:=hid hG
                 clear hb0 hG c0 c1 c2 c3 c4 t0 t1 t2 t3 t4 t5 t6 t7 t8 t9 t10 t11 t12 f1 zk zi zh zg zf yZ yY yX nV nU nT s0 s1 GY GX
                 go_simp
                 first
                 | exact hK _ jC.out
                 | (go_wp2_with (first | ((with_reducible refine(HO.out _ HB0.out).mono ?_);rintro e' w1 ⟨rfl,hb1⟩))
                    first | (with_reducible exact jC.out) | exact ag jC.out hb1 | exact ai jC.out _ | exact hK _ jC.out | exact hK _ (ag jC.out hb1) | exact hK _ (ai jC.out _))))
          case hdone=>
            intro w' hG
            go_wp2_with fail
            go_meet
            exact⟨by rw[HR.out],hG⟩
        · have k1:(t.at_==1)=false:=by simpa using p1
          by_cases p3:t.at_=3
          · have k3:(t.at_==3)=true:=by simpa using p3
            have HR:Hid (dA s t ⟨kind,i,tx,a,v,x,why⟩=s.yD a i):=hid (by
              unfold dA;simp only[beq_iff_eq,beq_eq_false_iff_ne]at y1 y2 y3 y4;rw[if_neg y1];rw[if_neg y2];rw[if_neg y3];rw[if_pos y4];rw[decide_eq_true ⟨Or.inr p3,p2⟩];rfl)
            clear p1 p3
            go_wp2_with fail
            apply dN [.pointer (some ⟨tb,i*13,none⟩),.pointer (some ⟨tb,i*13,none⟩),.pointer (some ⟨tb,i*13,none⟩),.int .i64 t.at_,.bool false,.bool false,.pointer (some ⟨tb,i*13,none⟩),.pointer (some ⟨tb,i*13,none⟩),.pointer (some ⟨tb,i*13,none⟩),.int .i64 t.at_,.bool true,.bool true,.bool true,.pointer (some ⟨w.heap.size,3,none⟩),.int .i64 (a:Int),.pointer (some ⟨tb,i*13,none⟩),.pointer (some ⟨tb,i*13,none⟩),.pointer (some ⟨tb,i*13+10,none⟩),.int .i64 t.locked,.bool true,.bool true,.bool true,.pointer (some ⟨c,0,none⟩),.pointer (some ⟨w.heap.size,3,none⟩),.int .i64 (a:Int),.agg #[.int .u8 kind,.int .i64 (i:Int),.int .i64 tx,.int .i64 (a:Int),.int .i64 v,.int .i64 x,.int .u8 why],.bool (s.yD a i),.bool (s.yD a i),.bool (s.yD a i)] (fun w'=>Below (w.alloc (.cells #[.int .u8 kind,.int .i64 (i:Int),.int .i64 tx,.int .i64 (a:Int),.int .i64 v,.int .i64 x,.int .u8 why] 49)).heap.size (w.alloc (.cells #[.int .u8 kind,.int .i64 (i:Int),.int .i64 tx,.int .i64 (a:Int),.int .i64 v,.int .i64 x,.int .u8 why] 49)) w')
            focus (simp[ay,aB,Act.put,List.getD];rfl)
            case hm=>kernel_rfl
            case hd=>kernel_rfl
            case hb=>kernel_rfl
            case kJ=>kernel_rfl
            case hsel=>kernel_rfl
            case hsz=>kernel_rfl
            case h0=>exact aj (af _)
            case hstep=>
              repeat' (first | exact trivial | (refine And.intro ?_ ?_))
              all_goals (
                intro w' hG
                first
                | (rw[if_neg (ne_true_of_eq_false (by kernel_rfl))];rfl)
                | (rw[if_pos (by kernel_rfl)]
                   intro K Qp hK
                   have d0:=later hG (aG t0)
                   have d10:=later hG (aG t10)
                   have d20:=later hG (HB.out.cell 0 rfl)
                   have d21:=later hG (HB.out.cell 1 rfl)
                   have d22:=later hG (HB.out.cell 2 rfl)
                   have d23:=later hG (HB.out.cell 3 rfl)
                   have d24:=later hG (HB.out.cell 4 rfl)
                   have d25:=later hG (HB.out.cell 5 rfl)
                   have d26:=later hG (HB.out.cell 6 rfl)
                   have hb0:Below w.heap.size w w':=ag (ah (af _) _) hG
                   have HB0:=hid hb0
                   have jC:=hid hG
                   clear hb0 hG c0 c1 c2 c3 c4 t0 t1 t2 t3 t4 t5 t6 t7 t8 t9 t10 t11 t12 f1 zk zi zh zg zf yZ yY yX nV nU nT s0 s1 GY GX
                   go_simp
                   first
                   | exact hK _ jC.out
                   | (go_wp2_with (first | ((with_reducible refine(HO.out _ HB0.out).mono ?_);rintro e' w1 ⟨rfl,hb1⟩))
                      first | (with_reducible exact jC.out) | exact ag jC.out hb1 | exact ai jC.out _ | exact hK _ jC.out | exact hK _ (ag jC.out hb1) | exact hK _ (ai jC.out _))))
            case hdone=>
              intro w' hG
              go_wp2_with fail
              go_meet
              exact⟨by rw[HR.out],hG⟩
          · have k3:(t.at_==3)=false:=by simpa using p3
            have HR:Hid (dA s t ⟨kind,i,tx,a,v,x,why⟩=false):=hid (by
              unfold dA;simp only[beq_iff_eq,beq_eq_false_iff_ne]at y1 y2 y3 y4;rw[if_neg y1];rw[if_neg y2];rw[if_neg y3];rw[if_pos y4];simp[p1,p3])
            clear p1 p3 p2
            go_wp2_with fail
            go_quiet (fail)
            go_wp2_with fail
            go_meet
            exact⟨by rw[HR.out],ai (af _) _⟩
      · have k2:decide (t.locked < (a:Int))=false:=decide_eq_false p2
        have HR:Hid (dA s t ⟨kind,i,tx,a,v,x,why⟩=false):=hid (by
          unfold dA;simp only[beq_iff_eq,beq_eq_false_iff_ne]at y1 y2 y3 y4;rw[if_neg y1];rw[if_neg y2];rw[if_neg y3];rw[if_pos y4];rw[decide_eq_false (fun hh=>p2 hh.2)];rfl)
        by_cases p1:t.at_=1
        · have k1:(t.at_==1)=true:=by simpa using p1
          clear p1 p2
          go_wp2_with fail
          go_quiet (fail)
          go_wp2_with fail
          go_meet
          exact⟨by rw[HR.out],ai (af _) _⟩
        · have k1:(t.at_==1)=false:=by simpa using p1
          by_cases p3:t.at_=3
          · have k3:(t.at_==3)=true:=by simpa using p3
            clear p1 p2 p3
            go_wp2_with fail
            go_quiet (fail)
            go_wp2_with fail
            go_meet
            exact⟨by rw[HR.out],ai (af _) _⟩
          · have k3:(t.at_==3)=false:=by simpa using p3
            clear p1 p2 p3
            go_wp2_with fail
            go_quiet (fail)
            go_wp2_with fail
            go_meet
            exact⟨by rw[HR.out],ai (af _) _⟩
    · by_cases p1:t.at_=4
      · have k1:(t.at_==4)=true:=by simpa using p1
        by_cases p2:a=bH t.check
        · have k2:((a:Int)==(bH t.check:Int))=true:=by simp;omega
          cases e1:s.yD a i with
          | true=>
            have HR:Hid (dA s t ⟨kind,i,tx,a,v,x,why⟩=true):=hid (by
              unfold dA;simp only[beq_iff_eq,beq_eq_false_iff_ne]at y1 y2 y3 y4 y5;rw[if_neg y1];rw[if_neg y2];rw[if_neg y3];rw[if_neg y4];rw[if_pos y5];rw[decide_eq_true ⟨p1,by dsimp only;omega⟩,e1];rfl)
            rw[e1]at HO
            clear p1 p2 e1
            go_wp2_with fail
            apply dN [.pointer (some ⟨tb,i*13,none⟩),.pointer (some ⟨tb,i*13,none⟩),.pointer (some ⟨tb,i*13,none⟩),.int .i64 t.at_,.bool true,.bool true,.pointer (some ⟨w.heap.size,3,none⟩),.int .i64 (a:Int),.pointer (some ⟨tb,i*13,none⟩),.pointer (some ⟨tb,i*13,none⟩),.pointer (some ⟨tb,i*13+9,none⟩),.int .u32 (t.check:Int),.int .i64 (bH t.check:Int),.bool true,.bool true,.bool true,.pointer (some ⟨c,0,none⟩),.pointer (some ⟨w.heap.size,3,none⟩),.int .i64 (a:Int),.agg #[.int .u8 kind,.int .i64 (i:Int),.int .i64 tx,.int .i64 (a:Int),.int .i64 v,.int .i64 x,.int .u8 why],.bool true,.bool true,undef,undef,undef,undef,undef,.bool true,.bool true,.bool true] (fun w'=>Below (w.alloc (.cells #[.int .u8 kind,.int .i64 (i:Int),.int .i64 tx,.int .i64 (a:Int),.int .i64 v,.int .i64 x,.int .u8 why] 49)).heap.size (w.alloc (.cells #[.int .u8 kind,.int .i64 (i:Int),.int .i64 tx,.int .i64 (a:Int),.int .i64 v,.int .i64 x,.int .u8 why] 49)) w')
            focus (simp[ay,aB,Act.put,List.getD];rfl)
            case hm=>kernel_rfl
            case hd=>kernel_rfl
            case hb=>kernel_rfl
            case kJ=>kernel_rfl
            case hsel=>kernel_rfl
            case hsz=>kernel_rfl
            case h0=>exact aj (af _)
            case hstep=>
              repeat' (first | exact trivial | (refine And.intro ?_ ?_))
              all_goals (
                intro w' hG
                first
                | (rw[if_neg (ne_true_of_eq_false (by kernel_rfl))];rfl)
                | (rw[if_pos (by kernel_rfl)]
                   intro K Qp hK
                   have d0:=later hG (aG t0)
                   have d9:=later hG (aG t9)
                   have d20:=later hG (HB.out.cell 0 rfl)
                   have d21:=later hG (HB.out.cell 1 rfl)
                   have d22:=later hG (HB.out.cell 2 rfl)
                   have d23:=later hG (HB.out.cell 3 rfl)
                   have d24:=later hG (HB.out.cell 4 rfl)
                   have d25:=later hG (HB.out.cell 5 rfl)
                   have d26:=later hG (HB.out.cell 6 rfl)
                   have hb0:Below w.heap.size w w':=ag (ah (af _) _) hG
                   have HB0:=hid hb0
                   have jC:=hid hG
                   clear hb0 hG c0 c1 c2 c3 c4 t0 t1 t2 t3 t4 t5 t6 t7 t8 t9 t10 t11 t12 f1 zk zi zh zg zf yZ yY yX nV nU nT s0 s1 GY GX
                   go_simp
                   first
                   | exact hK _ jC.out
                   | (go_wp2_with (first | ((with_reducible refine(HL2.out _ HB0.out).mono ?_);rintro e' w1 ⟨rfl,rfl⟩) | ((with_reducible refine(HO.out _ HB0.out).mono ?_);rintro e' w1 ⟨rfl,hb1⟩))
                      first | (with_reducible exact jC.out) | exact ag jC.out hb1 | exact ai jC.out _ | exact hK _ jC.out | exact hK _ (ag jC.out hb1) | exact hK _ (ai jC.out _))))
            case hdone=>
              intro w' hG
              go_wp2_with fail
              go_meet
              exact⟨by rw[HR.out],hG⟩
          | false=>
            have HR:Hid (dA s t ⟨kind,i,tx,a,v,x,why⟩=decide (t.rv < s.jD a)):=hid (by
              unfold dA;simp only[beq_iff_eq,beq_eq_false_iff_ne]at y1 y2 y3 y4 y5;rw[if_neg y1];rw[if_neg y2];rw[if_neg y3];rw[if_neg y4];rw[if_pos y5];rw[decide_eq_true ⟨p1,by dsimp only;omega⟩,e1];rfl)
            rw[e1]at HO
            clear p1 p2 e1
            go_wp2_with fail
            apply dN [.pointer (some ⟨tb,i*13,none⟩),.pointer (some ⟨tb,i*13,none⟩),.pointer (some ⟨tb,i*13,none⟩),.int .i64 t.at_,.bool true,.bool true,.pointer (some ⟨w.heap.size,3,none⟩),.int .i64 (a:Int),.pointer (some ⟨tb,i*13,none⟩),.pointer (some ⟨tb,i*13,none⟩),.pointer (some ⟨tb,i*13+9,none⟩),.int .u32 (t.check:Int),.int .i64 (bH t.check:Int),.bool true,.bool true,.bool true,.pointer (some ⟨c,0,none⟩),.pointer (some ⟨w.heap.size,3,none⟩),.int .i64 (a:Int),.agg #[.int .u8 kind,.int .i64 (i:Int),.int .i64 tx,.int .i64 (a:Int),.int .i64 v,.int .i64 x,.int .u8 why],.bool false,.bool false,.pointer (some ⟨c,0,none⟩),.pointer (some ⟨w.heap.size,3,none⟩),.int .i64 (a:Int),.pointer (some ⟨tb,i*13,none⟩),.bool (decide (t.rv < s.jD a)),.bool (decide (t.rv < s.jD a)),.bool (decide (t.rv < s.jD a)),.bool (decide (t.rv < s.jD a))] (fun w'=>Below (w.alloc (.cells #[.int .u8 kind,.int .i64 (i:Int),.int .i64 tx,.int .i64 (a:Int),.int .i64 v,.int .i64 x,.int .u8 why] 49)).heap.size (w.alloc (.cells #[.int .u8 kind,.int .i64 (i:Int),.int .i64 tx,.int .i64 (a:Int),.int .i64 v,.int .i64 x,.int .u8 why] 49)) w')
            focus (simp[ay,aB,Act.put,List.getD];rfl)
            case hm=>kernel_rfl
            case hd=>kernel_rfl
            case hb=>kernel_rfl
            case kJ=>kernel_rfl
            case hsel=>kernel_rfl
            case hsz=>kernel_rfl
            case h0=>exact aj (af _)
            case hstep=>
              repeat' (first | exact trivial | (refine And.intro ?_ ?_))
              all_goals (
                intro w' hG
                first
                | (rw[if_neg (ne_true_of_eq_false (by kernel_rfl))];rfl)
                | (rw[if_pos (by kernel_rfl)]
                   intro K Qp hK
                   have d0:=later hG (aG t0)
                   have d9:=later hG (aG t9)
                   have d20:=later hG (HB.out.cell 0 rfl)
                   have d21:=later hG (HB.out.cell 1 rfl)
                   have d22:=later hG (HB.out.cell 2 rfl)
                   have d23:=later hG (HB.out.cell 3 rfl)
                   have d24:=later hG (HB.out.cell 4 rfl)
                   have d25:=later hG (HB.out.cell 5 rfl)
                   have d26:=later hG (HB.out.cell 6 rfl)
                   have hb0:Below w.heap.size w w':=ag (ah (af _) _) hG
                   have HB0:=hid hb0
                   have jC:=hid hG
                   clear hb0 hG c0 c1 c2 c3 c4 t0 t1 t2 t3 t4 t5 t6 t7 t8 t9 t10 t11 t12 f1 zk zi zh zg zf yZ yY yX nV nU nT s0 s1 GY GX
                   go_simp
                   first
                   | exact hK _ jC.out
                   | (go_wp2_with (first | ((with_reducible refine(HL2.out _ HB0.out).mono ?_);rintro e' w1 ⟨rfl,rfl⟩) | ((with_reducible refine(HO.out _ HB0.out).mono ?_);rintro e' w1 ⟨rfl,hb1⟩) | ((with_reducible refine(HN.out _ HB0.out).mono ?_);rintro e' w1 ⟨rfl,n2,rfl⟩))
                      first | (with_reducible exact jC.out) | exact ag jC.out hb1 | exact ai jC.out _ | exact hK _ jC.out | exact hK _ (ag jC.out hb1) | exact hK _ (ai jC.out _))))
            case hdone=>
              intro w' hG
              go_wp2_with fail
              go_meet
              exact⟨by rw[HR.out],hG⟩
        · have k2:((a:Int)==(bH t.check:Int))=false:=by simp;omega
          have HR:Hid (dA s t ⟨kind,i,tx,a,v,x,why⟩=false):=hid (by
            unfold dA;simp only[beq_iff_eq,beq_eq_false_iff_ne]at y1 y2 y3 y4 y5;rw[if_neg y1];rw[if_neg y2];rw[if_neg y3];rw[if_neg y4];rw[if_pos y5];rw[decide_eq_false (fun hh=>p2 (by have:=hh.2;dsimp only at this;omega))];rfl)
          clear p1 p2
          go_wp2_with fail
          go_quiet ((go_at_call 81;exact Calls.quiet_of_same ((HL2.out _ (ai (ah (af _) _) _)).mono fun e w' ⟨h1,h2⟩=>⟨h1,h2.symm⟩)))
          go_wp2_with fail
          go_meet
          exact⟨by rw[HR.out],ai (af _) _⟩
      · have k1:(t.at_==4)=false:=by simpa using p1
        have HR:Hid (dA s t ⟨kind,i,tx,a,v,x,why⟩=false):=hid (by
          unfold dA;simp only[beq_iff_eq,beq_eq_false_iff_ne]at y1 y2 y3 y4 y5;rw[if_neg y1];rw[if_neg y2];rw[if_neg y3];rw[if_neg y4];rw[if_pos y5];rw[decide_eq_false (fun hh=>p1 hh.1)];rfl)
        clear p1
        go_wp2_with fail
        go_quiet (fail)
        go_wp2_with fail
        go_meet
        exact⟨by rw[HR.out],ai (af _) _⟩
    · by_cases p1:t.at_=3
      · have k1:(t.at_==3)=true:=by simpa using p1
        have HR:Hid (dA s t ⟨kind,i,tx,a,v,x,why⟩=true):=hid (by
          unfold dA;simp only[beq_iff_eq,beq_eq_false_iff_ne]at y1 y2 y3 y4 y5 y6;rw[if_neg y1,if_neg y2,if_neg y3,if_neg y4,if_neg y5,if_pos y6];simp[p1])
        clear p1
        go_wp2_with fail
        go_meet
        exact⟨by rw[HR.out],by repeat (first | assumption | exact af _ | refine aj ?_ | refine ah ?_ _ | refine ag ?_ (by assumption))⟩
      · have k1:(t.at_==3)=false:=by simpa using p1
        have HR:Hid (dA s t ⟨kind,i,tx,a,v,x,why⟩=false):=hid (by
          unfold dA;simp only[beq_iff_eq,beq_eq_false_iff_ne]at y1 y2 y3 y4 y5 y6;rw[if_neg y1,if_neg y2,if_neg y3,if_neg y4,if_neg y5,if_pos y6];simp[p1])
        clear p1
        go_wp2_with fail
        go_meet
        exact⟨by rw[HR.out],by repeat (first | assumption | exact af _ | refine aj ?_ | refine ah ?_ _ | refine ag ?_ (by assumption))⟩
  case rest=>
    obtain⟨rfl,hG⟩:=hcut
    have hb1:Below w.heap.size w wc:=ag (ah (af _) _) hG
    have H1:fK wc c tb sb s ev:=aY.below HH.out hb1
    have HI2:=HI.out
    have HE2:=HE.out
    obtain⟨d0,d1,d2,d3,d4,d5,d6,d7,d8,d9,d10,d11,d12⟩:=H1.t HI2 HE2
    have e0:wc.frozen? ⟨tb,i*13,none⟩=false:=H1.th.free _
    have e12:wc.frozen? ⟨tb,i*13+12,none⟩=false:=H1.th.free _
    have d16:=later hG (HB.out.cell 6 rfl)
    clear HK
    have HK:Hid (aY wc c tb sb s.aN.length s.aX.length s.vars s.clock ev (s.aN.map vU) (s.aX.map lU)):=hid H1
    have HT1:Hid (Turn [c,tb,sb] w wc):=hid (Turn.of_below hb1)
    have HB1:=hid hb1
    clear H1 hG hb1 HI2 HE2 c0 c1 c2 c3 c4 t0 t1 t2 t3 t4 t5 t6 t7 t8 t9 t10 t11 t12 f1 zk zi zh zg zf yZ yY yX nV nU nT s0 s1 GY GX
    cases hf:dA s t ⟨kind,i,tx,a,v,x,why⟩with
    | false=>
      have HR:=hid (show jk s t ⟨kind,i,tx,a,v,x,why⟩=none from if_neg (by rw[hf];simp))
      clear hf
      go_wp2_with fail
      go_ret
      exact aV HR.out HH.out rfl HB1.out
    | true=>
      by_cases po:t.owned=0
      · have k9:((t.owned:Int)==0)=true:=by simp[po]
        have HR:Hid (jk s t ⟨kind,i,tx,a,v,x,why⟩=some (s.aI i { t with at_:=0,full:=decide (why=6) })):=hid (by
          unfold jk;rw[if_pos hf];simp only[if_pos po])
        clear hf po
        go_wp2_with fail
        go_region
        all_goals (
          go_wp2_with fail
          go_ret
          (apply cZ HR.out rfl;(focus (repeat (first | (with_reducible exact HK.out) | (with_reducible apply aY.drew) | (with_reducible apply aY.alloc) | (with_reducible apply aY.drewN) | (with_reducible apply aY.gU;any_goals (exact HI.out)) | (with_reducible apply aY.jO;any_goals (first | (exact HI.out) | decide)) | (with_reducible apply aY.gV;any_goals (exact HA.out)) | (with_reducible apply aY.jP;any_goals (first | (exact HA.out) | decide)) | (with_reducible apply aY.di))));(exact⟨rfl,rfl⟩);((try simp only[aK]);exact aS _ _ _ _ _ _ HG.out rfl);rfl;(repeat (first | (with_reducible exact HT1.out) | (with_reducible exact Turn.refl _ _) | (with_reducible refine Turn.drew ?_) | (with_reducible refine Turn.alloc ?_ _) | (with_reducible refine Turn.drewN ?_ _) | (with_reducible refine Turn.setCell ?_ (Or.inl (by simp)) _)))))
      · have k9:((t.owned:Int)==0)=false:=by simp;omega
        have HR:Hid (jk s t ⟨kind,i,tx,a,v,x,why⟩=some (s.aI i { t with at_:=7,full:=decide (why=6) })):=hid (by
          unfold jk;rw[if_pos hf];simp only[if_neg po])
        clear hf po
        go_wp2_with fail
        go_region
        all_goals (
          go_wp2_with fail
          go_ret
          (apply cZ HR.out rfl;(focus (repeat (first | (with_reducible exact HK.out) | (with_reducible apply aY.drew) | (with_reducible apply aY.alloc) | (with_reducible apply aY.drewN) | (with_reducible apply aY.gU;any_goals (exact HI.out)) | (with_reducible apply aY.jO;any_goals (first | (exact HI.out) | decide)) | (with_reducible apply aY.gV;any_goals (exact HA.out)) | (with_reducible apply aY.jP;any_goals (first | (exact HA.out) | decide)) | (with_reducible apply aY.di))));(exact⟨rfl,rfl⟩);((try simp only[aK]);exact aS _ _ _ _ _ _ HG.out rfl);rfl;(repeat (first | (with_reducible exact HT1.out) | (with_reducible exact Turn.refl _ _) | (with_reducible refine Turn.drew ?_) | (with_reducible refine Turn.alloc ?_ _) | (with_reducible refine Turn.drewN ?_ _) | (with_reducible refine Turn.setCell ?_ (Or.inl (by simp)) _)))))
end
end Go.Proofs.YtcddlnmcjmhbcaaDoor
-- short
