/-
  The checker; walks: Wake.
-/
import Derived.Test.YtcddlnmcjmhbcaaDoorShC9
import Derived.Test.YtcddlnmcjmhbcaaDoorShC7
namespace Go.Proofs.YtcddlnmcjmhbcaaDoor
set_option linter.unusedVariables false
open Go Go.RowKit
section
variable {w:World} {c tb sb:Nat} {s:Sh} {ev:Nat}
def qO (s:Sh) (t:Th) (i:Nat):Bool:=t.read.testBit i&&decide (s.own i=-1∧t.rv < s.jD i)
theorem FM {s:Sh} {t:Th} {k:Nat} (hk:k < s.aX.length) (h:qO s t k=true):x9 s t=true:=
 List.any_eq_true.2 ⟨k,List.mem_range.2 hk,h⟩
theorem Jo {s:Sh} {t:Th} (h:∀ k,k < s.aX.length→qO s t k=false):x9 s t=false:=by
 unfold x9
 rw[List.any_eq_false]
 intro k hk
 have:=h k (List.mem_range.1 hk)
 unfold qO at this
 rw[this];simp
set_option maxRecDepth 100000 in
set_option maxHeartbeats 4000000 in
theorem LJ (h:fK w c tb sb s ev) (i:Nat) (hi:i < s.aN.length) {t:Th} (he:s.aN.getD i Th.zero=t) (hm:t.read < 4294967296) (hn32:s.aX.length≤32) (kind tx at_ v x why:Int):
  Calls Tryd.prog 53 #[.pointer (some ⟨c,0,none⟩),.pointer (some ⟨tb,i*13,none⟩),.agg #[.int .u8 kind,.int .i64 (i:Int),.int .i64 tx,.int .i64 at_,.int .i64 v,.int .i64 x,.int .u8 why]] w
   (mG w c tb sb s ev (ny s t ⟨kind,i,tx,at_,v,x,why⟩)):=by
 obtain⟨c0,c1,c2,c3,c4⟩:=h.cells
 obtain⟨t0,t1,t2,t3,t4,t5,t6,t7,t8,t9,t10,t11,t12⟩:=h.t hi he
 have f1:w.frozen? ⟨c,1,none⟩=false:=h.ck.free 1
 have zk:w.frozen? ⟨tb,i*13,none⟩=false:=h.th.free _
 have zi:w.frozen? ⟨tb,i*13+3,none⟩=false:=h.th.free _
 have zh:w.frozen? ⟨tb,i*13+4,none⟩=false:=h.th.free _
 have zg:w.frozen? ⟨tb,i*13+5,none⟩=false:=h.th.free _
 have zf:w.frozen? ⟨tb,i*13+6,none⟩=false:=h.th.free _
 have yZ:w.frozen? ⟨tb,i*13+7,none⟩=false:=h.th.free _
 have yY:w.frozen? ⟨tb,i*13+8,none⟩=false:=h.th.free _
 have yX:w.frozen? ⟨tb,i*13+9,none⟩=false:=h.th.free _
 have nV:w.frozen? ⟨tb,i*13+10,none⟩=false:=h.th.free _
 have nU:w.frozen? ⟨tb,i*13+11,none⟩=false:=h.th.free _
 have nT:w.frozen? ⟨tb,i*13+12,none⟩=false:=h.th.free _
 have hcl:=lt_of_cell c0
 have htl:=lt_of_cell t0
 have HH:=hid h
 have HK:Hid (aY w c tb sb s.aN.length s.aX.length s.vars s.clock ev (s.aN.map vU) (s.aX.map lU)):=hid h
 have HI:=hid hi
 have hne:=h.ne
 have HG:Hid (s.aN[i]? =some t):=hid (bD hi he)
 have HE:=hid he
 have HN:=hid fun W (hW:Below w.heap.size w W) (a:Nat) (ha:a < s.aX.length)=>wE (s:=s) (ev:=ev) (aY.below h hW) a ha hi he
 have HF:=hid fun W (hW:Below w.heap.size w W) (a:Nat) (ha:a < s.aX.length)=>nX (s:=s) (ev:=ev) (aY.below h hW) a ha
 clear h he hi
 by_cases p1:t.at_=8
 case neg=>
  have k1:(t.at_ !=8)=true:=by simpa using p1
  have HR:=hid (show ny s t ⟨kind,i,tx,at_,v,x,why⟩=none from if_neg (fun hh=>p1 hh.1))
  clear p1
  (go_enter Tryd.func53,Tryd.ntmps53;go_wp2_with fail;go_ret;exact aV HR.out HH.out rfl (by repeat (first | assumption | exact af _ | refine aj ?_ | refine ah ?_ _ | refine ag ?_ (by assumption))))
 have k1:(t.at_ !=8)=false:=by simpa using p1
 have HP:=hid p1
 have gl:(s.aX.length:Int)≤32:=by omega
 clear p1 hn32
 have hb0:Below w.heap.size w (w.alloc (.cells #[.int .u8 kind,.int .i64 (i:Int),.int .i64 tx,.int .i64 at_,.int .i64 v,.int .i64 x,.int .u8 why] 49)):=ah (af _) _
 have HB0:=hid hb0
 clear hb0
 go_enter Tryd.func53,Tryd.ntmps53
 go_wp2_with fail
 go_loopw [18] (fun n wr=>∃ k:Nat,k≤s.aX.length∧n=.int .i64 k∧Hid (∀ j,j < k→qO s t j=false)∧Below w.heap.size w wr) (fun n _=>s.aX.length-(intOf n).toNat)
 case atStart=>exact⟨0,Nat.zero_le _,rfl,hid (fun j hj=>by omega),HB0.out⟩
 case round=>
  obtain⟨k,hk,rfl,HJ,hb⟩:=hrel
  by_cases hlt:k < s.aX.length
  ·have d0:=later hb t0
   have d6:=later hb t6
   have hbt:=Iu t.read k hm
   have gk0:(0:Int)≤(k:Int):=by omega
   have gk1:(k:Int) < (s.aX.length:Int):=by omega
   have HKK:=hid hlt
   have zL:=hid hb
   have H1:fK wr c tb sb s ev:=aY.below HH.out hb
   have e0:wr.frozen? ⟨tb,i*13,none⟩=false:=H1.th.free _
   clear HK
   have HK:Hid (aY wr c tb sb s.aN.length s.aX.length s.vars s.clock ev (s.aN.map vU) (s.aX.map lU)):=hid H1
   have HT1:Hid (Turn [c,tb,sb] w wr):=hid (Turn.of_below hb)
   clear H1 hb hlt hk c0 c1 c2 c3 c4 t0 t1 t2 t3 t4 t5 t6 t7 t8 t9 t10 t11 t12 f1 zk zi zh zg zf yZ yY yX nV nU nT
   by_cases q1:t.read.testBit k=true
   ·rw[if_pos q1]at hbt
    by_cases q2:s.own k=-1
    ·have k2:(s.own (k:Int)== -1)=true:=by simpa using q2
     by_cases q3:t.rv < s.jD k
     ·have HR:=hid (show ny s t ⟨kind,i,tx,at_,v,x,why⟩=_ from if_pos ⟨HP.out,FM HKK.out (by unfold qO;rw[q1,decide_eq_true ⟨q2,q3⟩];rfl)⟩)
      clear q1 q2
      go_wp2_with (first | ((with_reducible refine(HF.out _ zL.out k HKK.out).mono ?_);rintro e' w1 ⟨rfl,rfl⟩) | ((with_reducible refine(HN.out _ zL.out k HKK.out).mono ?_);rintro e' w1 ⟨rfl,n2,rfl⟩))
      go_ret
      (apply cZ HR.out rfl;(focus (repeat (first | (with_reducible exact HK.out) | (with_reducible apply aY.drew) | (with_reducible apply aY.alloc) | (with_reducible apply aY.drewN) | (with_reducible apply aY.gU;any_goals (exact HI.out)) | (with_reducible apply aY.jO;any_goals (first | (exact HI.out) | decide)) | (with_reducible apply aY.gV;any_goals (exact HA.out)) | (with_reducible apply aY.jP;any_goals (first | (exact HA.out) | decide)) | (with_reducible apply aY.di))));(exact⟨rfl,rfl⟩);((try simp only[aK]);exact aS _ _ _ _ _ _ HG.out rfl);rfl;(repeat (first | (with_reducible exact HT1.out) | (with_reducible exact Turn.refl _ _) | (with_reducible refine Turn.drew ?_) | (with_reducible refine Turn.alloc ?_ _) | (with_reducible refine Turn.drewN ?_ _) | (with_reducible refine Turn.setCell ?_ (Or.inl (by simp)) _))))
     ·have k3:decide (t.rv < s.jD (k:Int))=false:=decide_eq_false q3
      have HW:Hid (qO s t k=false):=hid (by unfold qO;rw[decide_eq_false (fun hh=>q3 hh.2),Bool.and_false])
      clear q1 q2 q3
      go_wp2_with (first | ((with_reducible refine(HF.out _ zL.out k HKK.out).mono ?_);rintro e' w1 ⟨rfl,rfl⟩) | ((with_reducible refine(HN.out _ zL.out k HKK.out).mono ?_);rintro e' w1 ⟨rfl,n2,rfl⟩))
      go_roundw
      case rel=>exact⟨k+1,HKK.out,by go_num,hid (fun j hj=>by
       by_cases hjk:j=k
       ·rw[hjk];exact HW.out
       ·exact HJ.out j (by omega)),ai zL.out _⟩
      case measure=>(have:=HKK.out;simp[intOf];omega)
    ·have k2:(s.own (k:Int)== -1)=false:=by simpa using q2
     have HW:Hid (qO s t k=false):=hid (by unfold qO;rw[decide_eq_false (fun hh=>q2 hh.1),Bool.and_false])
     clear q1 q2
     go_wp2_with ((with_reducible refine(HF.out _ zL.out k HKK.out).mono ?_);rintro e' w1 ⟨rfl,rfl⟩)
     go_roundw
     case rel=>exact⟨k+1,HKK.out,by go_num,hid (fun j hj=>by
       by_cases hjk:j=k
       ·rw[hjk];exact HW.out
       ·exact HJ.out j (by omega)),zL.out⟩
     case measure=>(have:=HKK.out;simp[intOf];omega)
   ·rw[if_neg q1]at hbt
    have HW:Hid (qO s t k=false):=hid (by unfold qO;rw[Bool.eq_false_iff.2 q1,Bool.false_and])
    clear q1
    go_wp2_with fail
    go_roundw
    case rel=>exact⟨k+1,HKK.out,by go_num,hid (fun j hj=>by
       by_cases hjk:j=k
       ·rw[hjk];exact HW.out
       ·exact HJ.out j (by omega)),zL.out⟩
    case measure=>(have:=HKK.out;simp[intOf];omega)
  ·obtain rfl:k=s.aX.length:=by omega
   have HR:=hid (show ny s t ⟨kind,i,tx,at_,v,x,why⟩=none from if_neg (fun hh=>by rw[Jo HJ.out]at hh;cases hh.2))
   go_wp2_with fail
   go_ret
   exact aV HR.out HH.out rfl hb
end
end Go.Proofs.YtcddlnmcjmhbcaaDoor
-- short
