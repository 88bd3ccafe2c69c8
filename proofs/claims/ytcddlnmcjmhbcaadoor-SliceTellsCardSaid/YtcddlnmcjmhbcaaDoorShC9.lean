/-
  The checker; walks: Check.
-/
import Derived.Test.YtcddlnmcjmhbcaaDoorShC6
import Derived.Test.YtcddlnmcjmhbcaaDoorReg2
namespace Go.Proofs.YtcddlnmcjmhbcaaDoor
set_option linter.unusedVariables false
open Go Go.RowKit
section
variable {w:World} {c tb sb:Nat} {s:Sh} {ev:Nat}
theorem CQ (h:fK w c tb sb s ev) (i:Nat) (hi:i < s.aN.length) {t:Th} (he:s.aN.getD i Th.zero=t) (a:Nat) (ha:a < s.aX.length) (kind tx v x why:Int) (b1 b2:Bool) (e1:s.yD a i=b1) (e2:decide (t.rv < s.jD a)=b2):
    (∀ W,Below w.heap.size w W→Calls Tryd.prog 82 #[.pointer (some ⟨c,0,none⟩),.int .i64 (a:Int),.agg #[.int .u8 kind,.int .i64 (i:Int),.int .i64 tx,.int .i64 (a:Int),.int .i64 v,.int .i64 x,.int .u8 why]] W fun e w'=>e=.returned (.bool b1)∧Below W.heap.size W w')∧
    (∀ W,Below w.heap.size w W→Calls Tryd.prog 83 #[.pointer (some ⟨c,0,none⟩),.int .i64 (a:Int),.pointer (some ⟨tb,i*13,none⟩)] W fun e w'=>e=.returned (.bool b2)∧∃ n,w'=W.drewN n):=by
  subst e1;subst e2
  exact⟨fun W hW=>yC (s:=s) (ev:=ev) (aY.below h hW) a ha kind i tx a v x why,fun W hW=>wE (s:=s) (ev:=ev) (aY.below h hW) a ha hi he⟩
set_option maxRecDepth 100000 in
set_option maxHeartbeats 4000000 in
theorem Eu (h:fK w c tb sb s ev) (hT:gJ w) (i:Nat) (hi:i < s.aN.length) {t:Th} (he:s.aN.getD i Th.zero=t) (hm:t.check < 4294967296) (a:Nat) (ha:a < s.aX.length) (ha32:a < 32) (kind tx v x why:Int):
    Calls Tryd.prog 46 #[.pointer (some ⟨c,0,none⟩),.pointer (some ⟨tb,i*13,none⟩),.agg #[.int .u8 kind,.int .i64 (i:Int),.int .i64 tx,.int .i64 (a:Int),.int .i64 v,.int .i64 x,.int .u8 why]] w
      (mG w c tb sb s ev (ji s t ⟨kind,i,tx,a,v,x,why⟩)):=by
  obtain⟨c0,c1,c2,c3,c4⟩:=h.cells
  obtain⟨t0,t1,t2,t3,t4,t5,t6,t7,t8,t9,t10,t11,t12⟩:=h.t hi he
  have f1:w.frozen? ⟨c,1,none⟩=false:=h.ck.free 1
  have zk:w.frozen? ⟨tb,i*13,none⟩=false:=h.th.free _
  have zi:w.frozen? ⟨tb,i*13+3,none⟩=false:=h.th.free _
  have zh:w.frozen? ⟨tb,i*13+4,none⟩=false:=h.th.free _
  have zg:w.frozen? ⟨tb,i*13+5,none⟩=false:=h.th.free _
  have zf:w.frozen? ⟨tb,i*13+6,none⟩=false:=h.th.free _
  have yZ:w.frozen? ⟨tb,i*13+7,none⟩=false:=h.th.free _
  have yY:w.frozen? ⟨tb,i*13+8,none⟩=false:=h.th.free _
  have yX:w.frozen? ⟨tb,i*13+9,none⟩=false:=h.th.free _
  have nV:w.frozen? ⟨tb,i*13+10,none⟩=false:=h.th.free _
  have nU:w.frozen? ⟨tb,i*13+11,none⟩=false:=h.th.free _
  have nT:w.frozen? ⟨tb,i*13+12,none⟩=false:=h.th.free _
  have hcl:=lt_of_cell c0
  have htl:=lt_of_cell t0
  have HH:=hid h
  have HK:Hid (aY w c tb sb s.aN.length s.aX.length s.vars s.clock ev (s.aN.map vU) (s.aX.map lU)):=hid h
  have HI:=hid hi
  have hne:=h.ne
  have HG:Hid (s.aN[i]? =some t):=hid (bD hi he)
  have HE:=hid he
  have s0:=(h.si ha).1
  have s1:=(h.si ha).2
  have GY:w.frozen? ⟨sb,a*2,none⟩=false:=h.st.free _
  have GX:w.frozen? ⟨sb,a*2+1,none⟩=false:=h.st.free _
  have NP:(0:Int)≤(a:Int):=by omega
  have UZ:(a:Int) < (s.aX.length:Int):=by omega
  have hsl:=lt_of_cell s0
  have HA:=hid ha
  have HQ:Hid (s.aX[a]? =some (s.own a,s.jD a)):=hid (bD ha rfl)
  have HL:Hid (∀ n,Calls Tryd.prog 81 #[.int .u32 (t.check:Int)] ((w.alloc (.cells #[.int .u8 kind,.int .i64 (i:Int),.int .i64 tx,.int .i64 (a:Int),.int .i64 v,.int .i64 x,.int .u8 why] 49)).drewN n) fun e w'=>e=.returned (.int .i64 (bH t.check:Int))∧w'=(w.alloc (.cells #[.int .u8 kind,.int .i64 (i:Int),.int .i64 tx,.int .i64 (a:Int),.int .i64 v,.int .i64 x,.int .u8 why] 49)).drewN n):=
    hid fun n=>(pO t.check hm _ (hT.below (ai (ah (af _) _) n))).mono fun e w' ⟨h1,h2⟩=>⟨h1,h2.symm⟩
  have HL2:=hid fun W (hW:Below w.heap.size w W)=>pO t.check hm W (hT.below hW)
  have hcb:=I7 t.check a hm ha32
  have HX:=fun b1 b2 e1 e2=>CQ h i hi he a ha kind tx v x why b1 b2 e1 e2
  clear h hT he hi ha
  by_cases p1:t.at_=4
  case neg=>
    have k1:(t.at_ !=4)=true:=by simpa using p1
    have HR:=hid (show ji s t ⟨kind,i,tx,a,v,x,why⟩=none from if_neg (fun hh=>p1 hh.1))
    clear p1 HX
    (go_enter Tryd.func46,Tryd.ntmps46;go_wp2_with fail;go_quiet (fail);go_wp2_with fail;go_ret;exact aV HR.out HH.out rfl (ai (by repeat (first | assumption | exact af _ | refine aj ?_ | refine ah ?_ _ | refine ag ?_ (by assumption))) _))
  have k1:(t.at_ !=4)=false:=by simpa using p1
  by_cases p2:a=bH t.check
  case neg=>
    have k5:((a:Int) !=(bH t.check:Int))=true:=by simp;omega
    have HR:=hid (show ji s t ⟨kind,i,tx,a,v,x,why⟩=none from if_neg (fun hh=>p2 (by have:=hh.2.1;dsimp only at this;omega)))
    clear p1 p2 HX
    (go_enter Tryd.func46,Tryd.ntmps46;go_wp2_with fail;go_quiet ((go_at_call 81;exact Calls.quiet_of_same (HL.out _)));go_wp2_with fail;go_ret;exact aV HR.out HH.out rfl (ai (by repeat (first | assumption | exact af _ | refine aj ?_ | refine ah ?_ _ | refine ag ?_ (by assumption))) _))
  have k5:((a:Int) !=(bH t.check:Int))=false:=by simp;omega
  cases e1:s.yD a i with
  | true=>
    have HO:=hid (HX true _ e1 rfl).1
    have HR:=hid (show ji s t ⟨kind,i,tx,a,v,x,why⟩=none from if_neg (fun hh=>by have:=hh.2.2.1;dsimp only at this;rw[e1]at this;cases this))
    clear p1 p2 HX e1
    go_enter Tryd.func46,Tryd.ntmps46
    go_wp2_with fail
    have b0:=(aA.new w #[.int .u8 kind,.int .i64 (i:Int),.int .i64 tx,.int .i64 (a:Int),.int .i64 v,.int .i64 x,.int .u8 why] 49)
    apply dN [.pointer (some ⟨tb,i*13,none⟩),.pointer (some ⟨tb,i*13,none⟩),.pointer (some ⟨tb,i*13,none⟩),.int .i64 t.at_,.bool false,.bool false,.pointer (some ⟨w.heap.size,3,none⟩),.int .i64 (a:Int),.pointer (some ⟨tb,i*13,none⟩),.pointer (some ⟨tb,i*13,none⟩),.pointer (some ⟨tb,i*13+9,none⟩),.int .u32 (t.check:Int),.int .i64 (bH t.check:Int),.bool false,.bool false,.bool false,.pointer (some ⟨c,0,none⟩),.pointer (some ⟨w.heap.size,3,none⟩),.int .i64 (a:Int),.agg #[.int .u8 kind,.int .i64 (i:Int),.int .i64 tx,.int .i64 (a:Int),.int .i64 v,.int .i64 x,.int .u8 why],.bool true,.bool true,.bool true,undef,undef,undef,undef,undef,.bool true] (fun w'=>Below (w.alloc (.cells #[.int .u8 kind,.int .i64 (i:Int),.int .i64 tx,.int .i64 (a:Int),.int .i64 v,.int .i64 x,.int .u8 why] 49)).heap.size (w.alloc (.cells #[.int .u8 kind,.int .i64 (i:Int),.int .i64 tx,.int .i64 (a:Int),.int .i64 v,.int .i64 x,.int .u8 why] 49)) w')
    focus (simp[ay,aB,Act.put,List.getD];rfl)
    case hm=>kernel_rfl
    case hd=>kernel_rfl
    case hb=>kernel_rfl
    case kJ=>kernel_rfl
    case hsel=>kernel_rfl
    case hsz=>kernel_rfl
    case h0=>exact aj (af _)
    case hstep=>
      repeat' (first | exact trivial | (refine And.intro ?_ ?_))
      all_goals (
        intro w' hG
        first
        | (rw[if_neg (ne_true_of_eq_false (by kernel_rfl))];rfl)
        | (rw[if_pos (by kernel_rfl)]
           intro K Qp hK
           have d0:=later hG (aG t0)
           have d9:=later hG (aG t9)
           have d10:=later hG (b0.cell 0 rfl)
           have d11:=later hG (b0.cell 1 rfl)
           have d12:=later hG (b0.cell 2 rfl)
           have d13:=later hG (b0.cell 3 rfl)
           have d14:=later hG (b0.cell 4 rfl)
           have d15:=later hG (b0.cell 5 rfl)
           have d16:=later hG (b0.cell 6 rfl)
           have hb0:Below w.heap.size w w':=ag (ah (af _) _) hG
           have HB0:=hid hb0
           have jC:=hid hG
           clear hb0 hG c0 c1 c2 c3 c4 t0 t1 t2 t3 t4 t5 t6 t7 t8 t9 t10 t11 t12 f1 zk zi zh zg zf yZ yY yX nV nU nT s0 s1 GY GX b0
           go_simp
           first
           | exact hK _ jC.out
           | (go_wp2_with (first | ((with_reducible refine(HL2.out _ HB0.out).mono ?_);rintro e' w1 ⟨rfl,rfl⟩) | ((with_reducible refine(HO.out _ HB0.out).mono ?_);rintro e' w1 ⟨rfl,hb1⟩))
              first | (with_reducible exact jC.out) | exact ag jC.out hb1 | exact ai jC.out _ | exact hK _ jC.out | exact hK _ (ag jC.out hb1) | exact hK _ (ai jC.out _))))
    case hdone=>
      intro w' hG
      have hb1:Below w.heap.size w w':=ag (ah (af _) _) hG
      clear hG
      go_wp2_with fail
      go_ret
      exact aV HR.out HH.out rfl hb1
  | false=>
    by_cases p3:t.rv < s.jD a
    · have HO:=hid (HX false true e1 (decide_eq_true p3)).1
      have HN:=hid (HX false true e1 (decide_eq_true p3)).2
      have HR:=hid (show ji s t ⟨kind,i,tx,a,v,x,why⟩=none from if_neg (fun hh=>by have:=hh.2.2.2;dsimp only at this;omega))
      clear p1 p2 HX e1 p3
      go_enter Tryd.func46,Tryd.ntmps46
      go_wp2_with fail
      have b0:=(aA.new w #[.int .u8 kind,.int .i64 (i:Int),.int .i64 tx,.int .i64 (a:Int),.int .i64 v,.int .i64 x,.int .u8 why] 49)
      apply dN [.pointer (some ⟨tb,i*13,none⟩),.pointer (some ⟨tb,i*13,none⟩),.pointer (some ⟨tb,i*13,none⟩),.int .i64 t.at_,.bool false,.bool false,.pointer (some ⟨w.heap.size,3,none⟩),.int .i64 (a:Int),.pointer (some ⟨tb,i*13,none⟩),.pointer (some ⟨tb,i*13,none⟩),.pointer (some ⟨tb,i*13+9,none⟩),.int .u32 (t.check:Int),.int .i64 (bH t.check:Int),.bool false,.bool false,.bool false,.pointer (some ⟨c,0,none⟩),.pointer (some ⟨w.heap.size,3,none⟩),.int .i64 (a:Int),.agg #[.int .u8 kind,.int .i64 (i:Int),.int .i64 tx,.int .i64 (a:Int),.int .i64 v,.int .i64 x,.int .u8 why],.bool false,.bool false,.bool false,.pointer (some ⟨c,0,none⟩),.pointer (some ⟨w.heap.size,3,none⟩),.int .i64 (a:Int),.pointer (some ⟨tb,i*13,none⟩),.bool true,.bool true] (fun w'=>Below (w.alloc (.cells #[.int .u8 kind,.int .i64 (i:Int),.int .i64 tx,.int .i64 (a:Int),.int .i64 v,.int .i64 x,.int .u8 why] 49)).heap.size (w.alloc (.cells #[.int .u8 kind,.int .i64 (i:Int),.int .i64 tx,.int .i64 (a:Int),.int .i64 v,.int .i64 x,.int .u8 why] 49)) w')
      focus (simp[ay,aB,Act.put,List.getD];rfl)
      case hm=>kernel_rfl
      case hd=>kernel_rfl
      case hb=>kernel_rfl
      case kJ=>kernel_rfl
      case hsel=>kernel_rfl
      case hsz=>kernel_rfl
      case h0=>exact aj (af _)
      case hstep=>
        repeat' (first | exact trivial | (refine And.intro ?_ ?_))
        all_goals (
          intro w' hG
          first
          | (rw[if_neg (ne_true_of_eq_false (by kernel_rfl))];rfl)
          | (rw[if_pos (by kernel_rfl)]
             intro K Qp hK
             have d0:=later hG (aG t0)
             have d9:=later hG (aG t9)
             have d10:=later hG (b0.cell 0 rfl)
             have d11:=later hG (b0.cell 1 rfl)
             have d12:=later hG (b0.cell 2 rfl)
             have d13:=later hG (b0.cell 3 rfl)
             have d14:=later hG (b0.cell 4 rfl)
             have d15:=later hG (b0.cell 5 rfl)
             have d16:=later hG (b0.cell 6 rfl)
             have hb0:Below w.heap.size w w':=ag (ah (af _) _) hG
             have HB0:=hid hb0
             have jC:=hid hG
             clear hb0 hG c0 c1 c2 c3 c4 t0 t1 t2 t3 t4 t5 t6 t7 t8 t9 t10 t11 t12 f1 zk zi zh zg zf yZ yY yX nV nU nT s0 s1 GY GX b0
             go_simp
             first
             | exact hK _ jC.out
             | (go_wp2_with (first | ((with_reducible refine(HL2.out _ HB0.out).mono ?_);rintro e' w1 ⟨rfl,rfl⟩) | ((with_reducible refine(HO.out _ HB0.out).mono ?_);rintro e' w1 ⟨rfl,hb1⟩) | ((with_reducible refine(HN.out _ HB0.out).mono ?_);rintro e' w1 ⟨rfl,n2,rfl⟩))
                first | (with_reducible exact jC.out) | exact ag jC.out hb1 | exact ai jC.out _ | exact hK _ jC.out | exact hK _ (ag jC.out hb1) | exact hK _ (ai jC.out _))))
      case hdone=>
        intro w' hG
        have hb1:Below w.heap.size w w':=ag (ah (af _) _) hG
        clear hG
        go_wp2_with fail
        go_ret
        exact aV HR.out HH.out rfl hb1
    · have HO:=hid (HX false false e1 (decide_eq_false p3)).1
      have HN:=hid (HX false false e1 (decide_eq_false p3)).2
      have HR:=hid (show ji s t ⟨kind,i,tx,a,v,x,why⟩=_ from if_pos ⟨p1,by dsimp only;omega,e1,by dsimp only;omega⟩)
      clear p1 p2 HX e1 p3
      go_enter Tryd.func46,Tryd.ntmps46
      go_wp2_with fail
      have b0:=(aA.new w #[.int .u8 kind,.int .i64 (i:Int),.int .i64 tx,.int .i64 (a:Int),.int .i64 v,.int .i64 x,.int .u8 why] 49)
      apply dN [.pointer (some ⟨tb,i*13,none⟩),.pointer (some ⟨tb,i*13,none⟩),.pointer (some ⟨tb,i*13,none⟩),.int .i64 t.at_,.bool false,.bool false,.pointer (some ⟨w.heap.size,3,none⟩),.int .i64 (a:Int),.pointer (some ⟨tb,i*13,none⟩),.pointer (some ⟨tb,i*13,none⟩),.pointer (some ⟨tb,i*13+9,none⟩),.int .u32 (t.check:Int),.int .i64 (bH t.check:Int),.bool false,.bool false,.bool false,.pointer (some ⟨c,0,none⟩),.pointer (some ⟨w.heap.size,3,none⟩),.int .i64 (a:Int),.agg #[.int .u8 kind,.int .i64 (i:Int),.int .i64 tx,.int .i64 (a:Int),.int .i64 v,.int .i64 x,.int .u8 why],.bool false,.bool false,.bool false,.pointer (some ⟨c,0,none⟩),.pointer (some ⟨w.heap.size,3,none⟩),.int .i64 (a:Int),.pointer (some ⟨tb,i*13,none⟩),.bool false,.bool false] (fun w'=>Below (w.alloc (.cells #[.int .u8 kind,.int .i64 (i:Int),.int .i64 tx,.int .i64 (a:Int),.int .i64 v,.int .i64 x,.int .u8 why] 49)).heap.size (w.alloc (.cells #[.int .u8 kind,.int .i64 (i:Int),.int .i64 tx,.int .i64 (a:Int),.int .i64 v,.int .i64 x,.int .u8 why] 49)) w')
      focus (simp[ay,aB,Act.put,List.getD];rfl)
      case hm=>kernel_rfl
      case hd=>kernel_rfl
      case hb=>kernel_rfl
      case kJ=>kernel_rfl
      case hsel=>kernel_rfl
      case hsz=>kernel_rfl
      case h0=>exact aj (af _)
      case hstep=>
        repeat' (first | exact trivial | (refine And.intro ?_ ?_))
        all_goals (
          intro w' hG
          first
          | (rw[if_neg (ne_true_of_eq_false (by kernel_rfl))];rfl)
          | (rw[if_pos (by kernel_rfl)]
             intro K Qp hK
             have d0:=later hG (aG t0)
             have d9:=later hG (aG t9)
             have d10:=later hG (b0.cell 0 rfl)
             have d11:=later hG (b0.cell 1 rfl)
             have d12:=later hG (b0.cell 2 rfl)
             have d13:=later hG (b0.cell 3 rfl)
             have d14:=later hG (b0.cell 4 rfl)
             have d15:=later hG (b0.cell 5 rfl)
             have d16:=later hG (b0.cell 6 rfl)
             have hb0:Below w.heap.size w w':=ag (ah (af _) _) hG
             have HB0:=hid hb0
             have jC:=hid hG
             clear hb0 hG c0 c1 c2 c3 c4 t0 t1 t2 t3 t4 t5 t6 t7 t8 t9 t10 t11 t12 f1 zk zi zh zg zf yZ yY yX nV nU nT s0 s1 GY GX b0
             go_simp
             first
             | exact hK _ jC.out
             | (go_wp2_with (first | ((with_reducible refine(HL2.out _ HB0.out).mono ?_);rintro e' w1 ⟨rfl,rfl⟩) | ((with_reducible refine(HO.out _ HB0.out).mono ?_);rintro e' w1 ⟨rfl,hb1⟩) | ((with_reducible refine(HN.out _ HB0.out).mono ?_);rintro e' w1 ⟨rfl,n2,rfl⟩))
                first | (with_reducible exact jC.out) | exact ag jC.out hb1 | exact ai jC.out _ | exact hK _ jC.out | exact hK _ (ag jC.out hb1) | exact hK _ (ai jC.out _))))
      case hdone=>
        intro w' hG
        have hb1:Below w.heap.size w w':=ag (ah (af _) _) hG
        have d9:=later hG (aG t9)
        have d13:=later hG (b0.cell 3 rfl)
        have H1:fK w' c tb sb s ev:=aY.below HH.out hb1
        have e9:w'.frozen? ⟨tb,i*13+9,none⟩=false:=H1.th.free _
        clear HK
        have HK:Hid (aY w' c tb sb s.aN.length s.aX.length s.vars s.clock ev (s.aN.map vU) (s.aX.map lU)):=hid H1
        have HT1:Hid (Turn [c,tb,sb] w w'):=hid (Turn.of_below hb1)
        clear H1 hG hb1 c0 c1 c2 c3 c4 t0 t1 t2 t3 t4 t5 t6 t7 t8 t9 t10 t11 t12 f1 zk zi zh zg zf yZ yY yX nV nU nT s0 s1 GY GX b0
        go_wp2_with fail
        go_region
        all_goals (
          go_wp2_with fail
          go_ret
          (apply cZ HR.out rfl;(focus (repeat (first | (with_reducible exact HK.out) | (with_reducible apply aY.drew) | (with_reducible apply aY.alloc) | (with_reducible apply aY.drewN) | (with_reducible apply aY.gU;any_goals (exact HI.out)) | (with_reducible apply aY.jO;any_goals (first | (exact HI.out) | decide)) | (with_reducible apply aY.gV;any_goals (exact HA.out)) | (with_reducible apply aY.jP;any_goals (first | (exact HA.out) | decide)) | (with_reducible apply aY.di))));(exact⟨rfl,rfl⟩);((try simp only[aK]);exact aS _ _ _ _ _ _ HG.out rfl);rfl;(repeat (first | (with_reducible exact HT1.out) | (with_reducible exact Turn.refl _ _) | (with_reducible refine Turn.drew ?_) | (with_reducible refine Turn.alloc ?_ _) | (with_reducible refine Turn.drewN ?_ _) | (with_reducible refine Turn.setCell ?_ (Or.inl (by simp)) _)))))
end
end Go.Proofs.YtcddlnmcjmhbcaaDoor
-- short
