/-
  Joined texts: ShF ShG.
-/
import Derived.Test.YtcddlnmcjmhbcaaDoorShE
import Derived.Deep.DeepCutAuto
namespace Go.Proofs.YtcddlnmcjmhbcaaDoor
set_option linter.unusedVariables false
set_option linter.unusedSimpArgs false
open Go Go.RowKit
set_option maxRecDepth 100000 in
set_option maxHeartbeats 4000000 in
theorem Uc (th tx at_ v x why:Int) (w:World) (hK:bn w) (he:jr ⟨1,th,tx,at_,v,x,why⟩):Calls Tryd.prog 78 #[jL ⟨1,th,tx,at_,v,x,why⟩] w fun e w'=>e=.returned (jL ⟨1,th,tx,0,v,0,0⟩)∧Below w.heap.size w w':=by
 obtain⟨-,-,gY,dU,jI,kH,eU⟩:=he
 dsimp only at gY dU jI kH eU
 have hk:=hK 1 _ rfl
 clear hK
 obtain⟨a,cap,k1,k2,k3⟩:=hk
 obtain⟨kb,ko,rfl,k4⟩:=k3 (by simp)
 clear k2 k3
 have gG:=k4 0 (by simp)
 have qm:=k4 1 (by simp)
 clear k4
 simp only[List.length_cons,List.length_nil,List.getElem_cons_zero,List.getElem_cons_succ,Nat.add_zero,Nat.zero_add,Nat.reduceMul,Nat.reduceAdd]at k1 gG qm
 dsimp only[jL]
 have HK:=hid (And.intro k1 (And.intro gG qm))
 clear k1 gG qm
 go_enter Tryd.func78,Tryd.ntmps78
 go_upto_region 1 with(fail)
 go_cut [3,4] (fun s3 s4 w'=>∃ p q,s3=.pointer (some ⟨p,0,none⟩)∧s4=.pointer (some ⟨q,0,none⟩)∧aA w' p (eG ⟨1,th,tx,at_,v,x,why⟩) 130∧aA w' q (eG ⟨1,th,0,0,0,0,0⟩) 130∧aA w' w.heap.size (eG ⟨1,th,tx,at_,v,x,why⟩) 49∧aA w' (w.heap.size+1) (eG ⟨0,0,0,0,0,0,0⟩) 49∧p≠q∧w.heap.size+1 < p∧w.heap.size+1 < q∧Below w.heap.size w w')
 case first=>
  go_region_held3 (fun w'=>w'.cell? ⟨w.heap.size,0,none⟩=some (.int .u8 1)∧w'.cell? ⟨w.heap.size,1,none⟩=some (.int .i64 th)∧w'.cell? ⟨w.heap.size,2,none⟩=some (.int .i64 tx)∧w'.cell? ⟨w.heap.size,3,none⟩=some (.int .i64 at_)∧w'.cell? ⟨w.heap.size,4,none⟩=some (.int .i64 v)∧w'.cell? ⟨w.heap.size,5,none⟩=some (.int .i64 x)∧w'.cell? ⟨w.heap.size,6,none⟩=some (.int .u8 why)) (go_keep) (fail)
  all_goals (
   go_wp2_with fail
   go_meet
   dsimp only[eG]
   refine⟨_,_,rfl,rfl,?_,?_,?_,?_,by omega,by omega,by omega,by repeat (first | assumption | exact af _ | refine aj ?_ | refine ah ?_ _ | refine ag ?_ (by assumption))⟩
   all_goals (repeat (first | (with_reducible assumption) | (with_reducible exact aA.new _ _ _) | (with_reducible exact aA.new' _ _ _ (by simp[World.setCell])) | (with_reducible refine aA.drew ?_) | (with_reducible refine aA.alloc ?_ _))))
 case rest=>
  obtain⟨p,q,rfl,rfl,hP,hQ,hE,hO,hpq,hp,hq,hb⟩:=hcut
  have c1:=later hb HK.out.1;have pg:=later hb HK.out.2.1;have mM:=later hb HK.out.2.2
  have wz:=hb.size
  have e0:=hE.cell 0 (v:=.int .u8 1) rfl
  have lk:=lt_of_cell HK.out.2.1
  have lg:=lt_of_cell HK.out.1
  have HP:=hid hP
  have HQ:=hid hQ
  have HO:=hid hO
  have HB:=hid hb
  clear hP hQ hE hO hb
  go_wp2_with fail
  refine wp_loop_rounds 3 ?_;rw[rounds_succ]
  go_wp2_with fail
  refine(TG p tx _ (HP.out.cell 2 rfl) gY).mono ?_
  rintro e1 w1 ⟨rfl,rfl⟩
  go_wp2_with fail
  refine(Sv q _ tx (eG ⟨1,th,0,0,0,0,0⟩) 130 _ (HQ.out.alloc _) (by simp[eG]) ?_ ((aA.new _ _ _).cell 0 rfl) gY).mono ?_
  ·have:=HQ.out.lt;omega
  rintro e1 w1 ⟨rfl,hq1,ht1⟩
  have hP1:=ht1.blk (by simp;exact hpq) (HP.out.alloc _)
  have nR:=ht1.blk (by simp;omega) (HO.out.alloc _)
  have c1':=ht1.cell (by simp;omega) (aG c1)
  have oO:=ht1.cell (by simp;omega) (aG mM)
  have hb1:Below w.heap.size w w1:=((HB.out.alloc HB.out.size _).trans ((ht1.below (B:=w.heap.size) (by simp;omega) (by simp;omega)).mono (Nat.le_refl _)))
  have hq2:=jK hq1 (show _=eG ⟨1,th,tx,0,0,0,0⟩from rfl)
  have wz1:=hb1.size
  clear c1 pg mM hq1 ht1
  have c1:=c1'
  clear c1'
  have mM:=oO
  clear oO
  clear HP HQ HO HB
  have HP:=hid hP1
  have HQ:=hid hq2
  have HO:=hid nR
  have HB:=hid hb1
  clear hP1 hq2 nR hb1
  go_wp2_with fail
  rw[rounds_succ]
  go_wp2_with fail
  refine(IX p v _ (HP.out.cell 4 rfl) jI).mono ?_
  rintro e1 w1 ⟨rfl,rfl⟩
  go_wp2_with fail
  refine(IC q _ v (eG ⟨1,th,tx,0,0,0,0⟩) 130 _ (HQ.out.alloc _) (by simp[eG]) ?_ ((aA.new _ _ _).cell 0 rfl) jI).mono ?_
  ·have:=HQ.out.lt;omega
  rintro e1 w1 ⟨rfl,hq1,ht1⟩
  have hP1:=ht1.blk (by simp;exact hpq) (HP.out.alloc _)
  have nR:=ht1.blk (by simp;omega) (HO.out.alloc _)
  have c1':=ht1.cell (by simp;omega) (aG c1)
  have hb1:Below w.heap.size w w1:=((HB.out.alloc HB.out.size _).trans ((ht1.below (B:=w.heap.size) (by simp;omega) (by simp;omega)).mono (Nat.le_refl _)))
  have hq2:=jK hq1 (show _=eG ⟨1,th,tx,0,v,0,0⟩from rfl)
  have wz1:=hb1.size
  clear c1 mM hq1 ht1
  have c1:=c1'
  clear c1'
  clear HP HQ HO HB
  have HP:=hid hP1
  have HQ:=hid hq2
  have HO:=hid nR
  have HB:=hid hb1
  clear hP1 hq2 nR hb1
  have q0:=HQ.out.cell 0 (v:=.int .u8 1) rfl
  have q1:=HQ.out.cell 1 (v:=.int .i64 th) rfl
  have q2:=HQ.out.cell 2 (v:=.int .i64 tx) rfl
  have q3:=HQ.out.cell 3 (v:=.int .i64 0) rfl
  have q4:=HQ.out.cell 4 (v:=.int .i64 v) rfl
  have q5:=HQ.out.cell 5 (v:=.int .i64 0) rfl
  have q6:=HQ.out.cell 6 (v:=.int .u8 0) rfl
  have o0:=HO.out.cell 0 (v:=.int .u8 0) rfl
  have o1:=HO.out.cell 1 (v:=.int .i64 0) rfl
  have o2:=HO.out.cell 2 (v:=.int .i64 0) rfl
  have o3:=HO.out.cell 3 (v:=.int .i64 0) rfl
  have o4:=HO.out.cell 4 (v:=.int .i64 0) rfl
  have o5:=HO.out.cell 5 (v:=.int .i64 0) rfl
  have o6:=HO.out.cell 6 (v:=.int .u8 0) rfl
  have f0:=HO.out.free 0
  have f1:=HO.out.free 1
  have f2:=HO.out.free 2
  have f3:=HO.out.free 3
  have f4:=HO.out.free 4
  have f5:=HO.out.free 5
  have f6:=HO.out.free 6
  go_wp2_with fail
  rw[rounds_succ]
  go_wp2_with fail
  exact bodyPost_ret (v:=.agg #[.int .u8 1,.int .i64 th,.int .i64 tx,.int .i64 0,.int .i64 v,.int .i64 0,.int .u8 0]) (by simp[results,Tryd.results78,go_sem, *]) rfl ⟨rfl,by(have h:=HB.out;repeat (first | (with_reducible exact h) | (with_reducible refine Below.setCell ?_ (by simp) _) | (with_reducible refine aj ?_) | (with_reducible refine ah ?_ _)))⟩
set_option maxRecDepth 100000 in
set_option maxHeartbeats 4000000 in
theorem Ub (th tx at_ v x why:Int) (w:World) (hK:bn w) (he:jr ⟨2,th,tx,at_,v,x,why⟩):Calls Tryd.prog 78 #[jL ⟨2,th,tx,at_,v,x,why⟩] w fun e w'=>e=.returned (jL ⟨2,th,0,at_,v,0,0⟩)∧Below w.heap.size w w':=by
 obtain⟨-,-,gY,dU,jI,kH,eU⟩:=he
 dsimp only at gY dU jI kH eU
 have hk:=hK 2 _ rfl
 clear hK
 obtain⟨a,cap,k1,k2,k3⟩:=hk
 obtain⟨kb,ko,rfl,k4⟩:=k3 (by simp)
 clear k2 k3
 have gG:=k4 0 (by simp)
 have qm:=k4 1 (by simp)
 clear k4
 simp only[List.length_cons,List.length_nil,List.getElem_cons_zero,List.getElem_cons_succ,Nat.add_zero,Nat.zero_add,Nat.reduceMul,Nat.reduceAdd]at k1 gG qm
 dsimp only[jL]
 have HK:=hid (And.intro k1 (And.intro gG qm))
 clear k1 gG qm
 go_enter Tryd.func78,Tryd.ntmps78
 go_upto_region 1 with(fail)
 go_cut [3,4] (fun s3 s4 w'=>∃ p q,s3=.pointer (some ⟨p,0,none⟩)∧s4=.pointer (some ⟨q,0,none⟩)∧aA w' p (eG ⟨2,th,tx,at_,v,x,why⟩) 130∧aA w' q (eG ⟨2,th,0,0,0,0,0⟩) 130∧aA w' w.heap.size (eG ⟨2,th,tx,at_,v,x,why⟩) 49∧aA w' (w.heap.size+1) (eG ⟨0,0,0,0,0,0,0⟩) 49∧p≠q∧w.heap.size+1 < p∧w.heap.size+1 < q∧Below w.heap.size w w')
 case first=>
  go_region_held3 (fun w'=>w'.cell? ⟨w.heap.size,0,none⟩=some (.int .u8 2)∧w'.cell? ⟨w.heap.size,1,none⟩=some (.int .i64 th)∧w'.cell? ⟨w.heap.size,2,none⟩=some (.int .i64 tx)∧w'.cell? ⟨w.heap.size,3,none⟩=some (.int .i64 at_)∧w'.cell? ⟨w.heap.size,4,none⟩=some (.int .i64 v)∧w'.cell? ⟨w.heap.size,5,none⟩=some (.int .i64 x)∧w'.cell? ⟨w.heap.size,6,none⟩=some (.int .u8 why)) (go_keep) (fail)
  all_goals (
   go_wp2_with fail
   go_meet
   dsimp only[eG]
   refine⟨_,_,rfl,rfl,?_,?_,?_,?_,by omega,by omega,by omega,by repeat (first | assumption | exact af _ | refine aj ?_ | refine ah ?_ _ | refine ag ?_ (by assumption))⟩
   all_goals (repeat (first | (with_reducible assumption) | (with_reducible exact aA.new _ _ _) | (with_reducible exact aA.new' _ _ _ (by simp[World.setCell])) | (with_reducible refine aA.drew ?_) | (with_reducible refine aA.alloc ?_ _))))
 case rest=>
  obtain⟨p,q,rfl,rfl,hP,hQ,hE,hO,hpq,hp,hq,hb⟩:=hcut
  have c1:=later hb HK.out.1;have pg:=later hb HK.out.2.1;have mM:=later hb HK.out.2.2
  have wz:=hb.size
  have e0:=hE.cell 0 (v:=.int .u8 2) rfl
  have lk:=lt_of_cell HK.out.2.1
  have lg:=lt_of_cell HK.out.1
  have HP:=hid hP
  have HQ:=hid hQ
  have HO:=hid hO
  have HB:=hid hb
  clear hP hQ hE hO hb
  go_wp2_with fail
  refine wp_loop_rounds 3 ?_;rw[rounds_succ]
  go_wp2_with fail
  refine(get_at p at_ _ (HP.out.cell 3 rfl) dU).mono ?_
  rintro e1 w1 ⟨rfl,rfl⟩
  go_wp2_with fail
  refine(ru q _ at_ (eG ⟨2,th,0,0,0,0,0⟩) 130 _ (HQ.out.alloc _) (by simp[eG]) ?_ ((aA.new _ _ _).cell 0 rfl) dU).mono ?_
  ·have:=HQ.out.lt;omega
  rintro e1 w1 ⟨rfl,hq1,ht1⟩
  have hP1:=ht1.blk (by simp;exact hpq) (HP.out.alloc _)
  have nR:=ht1.blk (by simp;omega) (HO.out.alloc _)
  have c1':=ht1.cell (by simp;omega) (aG c1)
  have oO:=ht1.cell (by simp;omega) (aG mM)
  have hb1:Below w.heap.size w w1:=((HB.out.alloc HB.out.size _).trans ((ht1.below (B:=w.heap.size) (by simp;omega) (by simp;omega)).mono (Nat.le_refl _)))
  have hq2:=jK hq1 (show _=eG ⟨2,th,0,at_,0,0,0⟩from rfl)
  have wz1:=hb1.size
  clear c1 pg mM hq1 ht1
  have c1:=c1'
  clear c1'
  have mM:=oO
  clear oO
  clear HP HQ HO HB
  have HP:=hid hP1
  have HQ:=hid hq2
  have HO:=hid nR
  have HB:=hid hb1
  clear hP1 hq2 nR hb1
  go_wp2_with fail
  rw[rounds_succ]
  go_wp2_with fail
  refine(IX p v _ (HP.out.cell 4 rfl) jI).mono ?_
  rintro e1 w1 ⟨rfl,rfl⟩
  go_wp2_with fail
  refine(IC q _ v (eG ⟨2,th,0,at_,0,0,0⟩) 130 _ (HQ.out.alloc _) (by simp[eG]) ?_ ((aA.new _ _ _).cell 0 rfl) jI).mono ?_
  ·have:=HQ.out.lt;omega
  rintro e1 w1 ⟨rfl,hq1,ht1⟩
  have hP1:=ht1.blk (by simp;exact hpq) (HP.out.alloc _)
  have nR:=ht1.blk (by simp;omega) (HO.out.alloc _)
  have c1':=ht1.cell (by simp;omega) (aG c1)
  have hb1:Below w.heap.size w w1:=((HB.out.alloc HB.out.size _).trans ((ht1.below (B:=w.heap.size) (by simp;omega) (by simp;omega)).mono (Nat.le_refl _)))
  have hq2:=jK hq1 (show _=eG ⟨2,th,0,at_,v,0,0⟩from rfl)
  have wz1:=hb1.size
  clear c1 mM hq1 ht1
  have c1:=c1'
  clear c1'
  clear HP HQ HO HB
  have HP:=hid hP1
  have HQ:=hid hq2
  have HO:=hid nR
  have HB:=hid hb1
  clear hP1 hq2 nR hb1
  have q0:=HQ.out.cell 0 (v:=.int .u8 2) rfl
  have q1:=HQ.out.cell 1 (v:=.int .i64 th) rfl
  have q2:=HQ.out.cell 2 (v:=.int .i64 0) rfl
  have q3:=HQ.out.cell 3 (v:=.int .i64 at_) rfl
  have q4:=HQ.out.cell 4 (v:=.int .i64 v) rfl
  have q5:=HQ.out.cell 5 (v:=.int .i64 0) rfl
  have q6:=HQ.out.cell 6 (v:=.int .u8 0) rfl
  have o0:=HO.out.cell 0 (v:=.int .u8 0) rfl
  have o1:=HO.out.cell 1 (v:=.int .i64 0) rfl
  have o2:=HO.out.cell 2 (v:=.int .i64 0) rfl
  have o3:=HO.out.cell 3 (v:=.int .i64 0) rfl
  have o4:=HO.out.cell 4 (v:=.int .i64 0) rfl
  have o5:=HO.out.cell 5 (v:=.int .i64 0) rfl
  have o6:=HO.out.cell 6 (v:=.int .u8 0) rfl
  have f0:=HO.out.free 0
  have f1:=HO.out.free 1
  have f2:=HO.out.free 2
  have f3:=HO.out.free 3
  have f4:=HO.out.free 4
  have f5:=HO.out.free 5
  have f6:=HO.out.free 6
  go_wp2_with fail
  rw[rounds_succ]
  go_wp2_with fail
  exact bodyPost_ret (v:=.agg #[.int .u8 2,.int .i64 th,.int .i64 0,.int .i64 at_,.int .i64 v,.int .i64 0,.int .u8 0]) (by simp[results,Tryd.results78,go_sem, *]) rfl ⟨rfl,by(have h:=HB.out;repeat (first | (with_reducible exact h) | (with_reducible refine Below.setCell ?_ (by simp) _) | (with_reducible refine aj ?_) | (with_reducible refine ah ?_ _)))⟩
set_option maxRecDepth 100000 in
set_option maxHeartbeats 4000000 in
theorem Ua (th tx at_ v x why:Int) (w:World) (hK:bn w) (he:jr ⟨3,th,tx,at_,v,x,why⟩):Calls Tryd.prog 78 #[jL ⟨3,th,tx,at_,v,x,why⟩] w fun e w'=>e=.returned (jL ⟨3,th,0,at_,0,x,0⟩)∧Below w.heap.size w w':=by
 obtain⟨-,-,gY,dU,jI,kH,eU⟩:=he
 dsimp only at gY dU jI kH eU
 have hk:=hK 3 _ rfl
 clear hK
 obtain⟨a,cap,k1,k2,k3⟩:=hk
 obtain⟨kb,ko,rfl,k4⟩:=k3 (by simp)
 clear k2 k3
 have gG:=k4 0 (by simp)
 have qm:=k4 1 (by simp)
 clear k4
 simp only[List.length_cons,List.length_nil,List.getElem_cons_zero,List.getElem_cons_succ,Nat.add_zero,Nat.zero_add,Nat.reduceMul,Nat.reduceAdd]at k1 gG qm
 dsimp only[jL]
 have HK:=hid (And.intro k1 (And.intro gG qm))
 clear k1 gG qm
 go_enter Tryd.func78,Tryd.ntmps78
 go_upto_region 1 with(fail)
 go_cut [3,4] (fun s3 s4 w'=>∃ p q,s3=.pointer (some ⟨p,0,none⟩)∧s4=.pointer (some ⟨q,0,none⟩)∧aA w' p (eG ⟨3,th,tx,at_,v,x,why⟩) 130∧aA w' q (eG ⟨3,th,0,0,0,0,0⟩) 130∧aA w' w.heap.size (eG ⟨3,th,tx,at_,v,x,why⟩) 49∧aA w' (w.heap.size+1) (eG ⟨0,0,0,0,0,0,0⟩) 49∧p≠q∧w.heap.size+1 < p∧w.heap.size+1 < q∧Below w.heap.size w w')
 case first=>
  go_region_held3 (fun w'=>w'.cell? ⟨w.heap.size,0,none⟩=some (.int .u8 3)∧w'.cell? ⟨w.heap.size,1,none⟩=some (.int .i64 th)∧w'.cell? ⟨w.heap.size,2,none⟩=some (.int .i64 tx)∧w'.cell? ⟨w.heap.size,3,none⟩=some (.int .i64 at_)∧w'.cell? ⟨w.heap.size,4,none⟩=some (.int .i64 v)∧w'.cell? ⟨w.heap.size,5,none⟩=some (.int .i64 x)∧w'.cell? ⟨w.heap.size,6,none⟩=some (.int .u8 why)) (go_keep) (fail)
  all_goals (
   go_wp2_with fail
   go_meet
   dsimp only[eG]
   refine⟨_,_,rfl,rfl,?_,?_,?_,?_,by omega,by omega,by omega,by repeat (first | assumption | exact af _ | refine aj ?_ | refine ah ?_ _ | refine ag ?_ (by assumption))⟩
   all_goals (repeat (first | (with_reducible assumption) | (with_reducible exact aA.new _ _ _) | (with_reducible exact aA.new' _ _ _ (by simp[World.setCell])) | (with_reducible refine aA.drew ?_) | (with_reducible refine aA.alloc ?_ _))))
 case rest=>
  obtain⟨p,q,rfl,rfl,hP,hQ,hE,hO,hpq,hp,hq,hb⟩:=hcut
  have c1:=later hb HK.out.1;have pg:=later hb HK.out.2.1;have mM:=later hb HK.out.2.2
  have wz:=hb.size
  have e0:=hE.cell 0 (v:=.int .u8 3) rfl
  have lk:=lt_of_cell HK.out.2.1
  have lg:=lt_of_cell HK.out.1
  have HP:=hid hP
  have HQ:=hid hQ
  have HO:=hid hO
  have HB:=hid hb
  clear hP hQ hE hO hb
  go_wp2_with fail
  refine wp_loop_rounds 3 ?_;rw[rounds_succ]
  go_wp2_with fail
  refine(get_at p at_ _ (HP.out.cell 3 rfl) dU).mono ?_
  rintro e1 w1 ⟨rfl,rfl⟩
  go_wp2_with fail
  refine(ru q _ at_ (eG ⟨3,th,0,0,0,0,0⟩) 130 _ (HQ.out.alloc _) (by simp[eG]) ?_ ((aA.new _ _ _).cell 0 rfl) dU).mono ?_
  ·have:=HQ.out.lt;omega
  rintro e1 w1 ⟨rfl,hq1,ht1⟩
  have hP1:=ht1.blk (by simp;exact hpq) (HP.out.alloc _)
  have nR:=ht1.blk (by simp;omega) (HO.out.alloc _)
  have c1':=ht1.cell (by simp;omega) (aG c1)
  have oO:=ht1.cell (by simp;omega) (aG mM)
  have hb1:Below w.heap.size w w1:=((HB.out.alloc HB.out.size _).trans ((ht1.below (B:=w.heap.size) (by simp;omega) (by simp;omega)).mono (Nat.le_refl _)))
  have hq2:=jK hq1 (show _=eG ⟨3,th,0,at_,0,0,0⟩from rfl)
  have wz1:=hb1.size
  clear c1 pg mM hq1 ht1
  have c1:=c1'
  clear c1'
  have mM:=oO
  clear oO
  clear HP HQ HO HB
  have HP:=hid hP1
  have HQ:=hid hq2
  have HO:=hid nR
  have HB:=hid hb1
  clear hP1 hq2 nR hb1
  go_wp2_with fail
  rw[rounds_succ]
  go_wp2_with fail
  refine(Rq p x _ (HP.out.cell 5 rfl) kH).mono ?_
  rintro e1 w1 ⟨rfl,rfl⟩
  go_wp2_with fail
  refine(Q7 q _ x (eG ⟨3,th,0,at_,0,0,0⟩) 130 _ (HQ.out.alloc _) (by simp[eG]) ?_ ((aA.new _ _ _).cell 0 rfl) kH).mono ?_
  ·have:=HQ.out.lt;omega
  rintro e1 w1 ⟨rfl,hq1,ht1⟩
  have hP1:=ht1.blk (by simp;exact hpq) (HP.out.alloc _)
  have nR:=ht1.blk (by simp;omega) (HO.out.alloc _)
  have c1':=ht1.cell (by simp;omega) (aG c1)
  have hb1:Below w.heap.size w w1:=((HB.out.alloc HB.out.size _).trans ((ht1.below (B:=w.heap.size) (by simp;omega) (by simp;omega)).mono (Nat.le_refl _)))
  have hq2:=jK hq1 (show _=eG ⟨3,th,0,at_,0,x,0⟩from rfl)
  have wz1:=hb1.size
  clear c1 mM hq1 ht1
  have c1:=c1'
  clear c1'
  clear HP HQ HO HB
  have HP:=hid hP1
  have HQ:=hid hq2
  have HO:=hid nR
  have HB:=hid hb1
  clear hP1 hq2 nR hb1
  have q0:=HQ.out.cell 0 (v:=.int .u8 3) rfl
  have q1:=HQ.out.cell 1 (v:=.int .i64 th) rfl
  have q2:=HQ.out.cell 2 (v:=.int .i64 0) rfl
  have q3:=HQ.out.cell 3 (v:=.int .i64 at_) rfl
  have q4:=HQ.out.cell 4 (v:=.int .i64 0) rfl
  have q5:=HQ.out.cell 5 (v:=.int .i64 x) rfl
  have q6:=HQ.out.cell 6 (v:=.int .u8 0) rfl
  have o0:=HO.out.cell 0 (v:=.int .u8 0) rfl
  have o1:=HO.out.cell 1 (v:=.int .i64 0) rfl
  have o2:=HO.out.cell 2 (v:=.int .i64 0) rfl
  have o3:=HO.out.cell 3 (v:=.int .i64 0) rfl
  have o4:=HO.out.cell 4 (v:=.int .i64 0) rfl
  have o5:=HO.out.cell 5 (v:=.int .i64 0) rfl
  have o6:=HO.out.cell 6 (v:=.int .u8 0) rfl
  have f0:=HO.out.free 0
  have f1:=HO.out.free 1
  have f2:=HO.out.free 2
  have f3:=HO.out.free 3
  have f4:=HO.out.free 4
  have f5:=HO.out.free 5
  have f6:=HO.out.free 6
  go_wp2_with fail
  rw[rounds_succ]
  go_wp2_with fail
  exact bodyPost_ret (v:=.agg #[.int .u8 3,.int .i64 th,.int .i64 0,.int .i64 at_,.int .i64 0,.int .i64 x,.int .u8 0]) (by simp[results,Tryd.results78,go_sem, *]) rfl ⟨rfl,by(have h:=HB.out;repeat (first | (with_reducible exact h) | (with_reducible refine Below.setCell ?_ (by simp) _) | (with_reducible refine aj ?_) | (with_reducible refine ah ?_ _)))⟩
set_option maxRecDepth 100000 in
set_option maxHeartbeats 4000000 in
theorem TZ (th tx at_ v x why:Int) (w:World) (hK:bn w) (he:jr ⟨4,th,tx,at_,v,x,why⟩):Calls Tryd.prog 78 #[jL ⟨4,th,tx,at_,v,x,why⟩] w fun e w'=>e=.returned (jL ⟨4,th,0,at_,0,0,0⟩)∧Below w.heap.size w w':=by
 obtain⟨-,-,gY,dU,jI,kH,eU⟩:=he
 dsimp only at gY dU jI kH eU
 have hk:=hK 4 _ rfl
 clear hK
 obtain⟨a,cap,k1,k2,k3⟩:=hk
 obtain⟨kb,ko,rfl,k4⟩:=k3 (by simp)
 clear k2 k3
 have gG:=k4 0 (by simp)
 clear k4
 simp only[List.length_cons,List.length_nil,List.getElem_cons_zero,List.getElem_cons_succ,Nat.add_zero,Nat.zero_add,Nat.reduceMul,Nat.reduceAdd]at k1 gG
 dsimp only[jL]
 have HK:=hid (And.intro k1 (gG))
 clear k1 gG
 go_enter Tryd.func78,Tryd.ntmps78
 go_upto_region 1 with(fail)
 go_cut [3,4] (fun s3 s4 w'=>∃ p q,s3=.pointer (some ⟨p,0,none⟩)∧s4=.pointer (some ⟨q,0,none⟩)∧aA w' p (eG ⟨4,th,tx,at_,v,x,why⟩) 130∧aA w' q (eG ⟨4,th,0,0,0,0,0⟩) 130∧aA w' w.heap.size (eG ⟨4,th,tx,at_,v,x,why⟩) 49∧aA w' (w.heap.size+1) (eG ⟨0,0,0,0,0,0,0⟩) 49∧p≠q∧w.heap.size+1 < p∧w.heap.size+1 < q∧Below w.heap.size w w')
 case first=>
  go_region_held3 (fun w'=>w'.cell? ⟨w.heap.size,0,none⟩=some (.int .u8 4)∧w'.cell? ⟨w.heap.size,1,none⟩=some (.int .i64 th)∧w'.cell? ⟨w.heap.size,2,none⟩=some (.int .i64 tx)∧w'.cell? ⟨w.heap.size,3,none⟩=some (.int .i64 at_)∧w'.cell? ⟨w.heap.size,4,none⟩=some (.int .i64 v)∧w'.cell? ⟨w.heap.size,5,none⟩=some (.int .i64 x)∧w'.cell? ⟨w.heap.size,6,none⟩=some (.int .u8 why)) (go_keep) (fail)
  all_goals (
   go_wp2_with fail
   go_meet
   dsimp only[eG]
   refine⟨_,_,rfl,rfl,?_,?_,?_,?_,by omega,by omega,by omega,by repeat (first | assumption | exact af _ | refine aj ?_ | refine ah ?_ _ | refine ag ?_ (by assumption))⟩
   all_goals (repeat (first | (with_reducible assumption) | (with_reducible exact aA.new _ _ _) | (with_reducible exact aA.new' _ _ _ (by simp[World.setCell])) | (with_reducible refine aA.drew ?_) | (with_reducible refine aA.alloc ?_ _))))
 case rest=>
  obtain⟨p,q,rfl,rfl,hP,hQ,hE,hO,hpq,hp,hq,hb⟩:=hcut
  have c1:=later hb HK.out.1;have pg:=later hb HK.out.2
  have wz:=hb.size
  have e0:=hE.cell 0 (v:=.int .u8 4) rfl
  have lk:=lt_of_cell HK.out.2
  have lg:=lt_of_cell HK.out.1
  have HP:=hid hP
  have HQ:=hid hQ
  have HO:=hid hO
  have HB:=hid hb
  clear hP hQ hE hO hb
  go_wp2_with fail
  refine wp_loop_rounds 2 ?_;rw[rounds_succ]
  go_wp2_with fail
  refine(get_at p at_ _ (HP.out.cell 3 rfl) dU).mono ?_
  rintro e1 w1 ⟨rfl,rfl⟩
  go_wp2_with fail
  refine(ru q _ at_ (eG ⟨4,th,0,0,0,0,0⟩) 130 _ (HQ.out.alloc _) (by simp[eG]) ?_ ((aA.new _ _ _).cell 0 rfl) dU).mono ?_
  ·have:=HQ.out.lt;omega
  rintro e1 w1 ⟨rfl,hq1,ht1⟩
  have hP1:=ht1.blk (by simp;exact hpq) (HP.out.alloc _)
  have nR:=ht1.blk (by simp;omega) (HO.out.alloc _)
  have c1':=ht1.cell (by simp;omega) (aG c1)
  have hb1:Below w.heap.size w w1:=((HB.out.alloc HB.out.size _).trans ((ht1.below (B:=w.heap.size) (by simp;omega) (by simp;omega)).mono (Nat.le_refl _)))
  have hq2:=jK hq1 (show _=eG ⟨4,th,0,at_,0,0,0⟩from rfl)
  have wz1:=hb1.size
  clear c1 pg hq1 ht1
  have c1:=c1'
  clear c1'
  clear HP HQ HO HB
  have HP:=hid hP1
  have HQ:=hid hq2
  have HO:=hid nR
  have HB:=hid hb1
  clear hP1 hq2 nR hb1
  have q0:=HQ.out.cell 0 (v:=.int .u8 4) rfl
  have q1:=HQ.out.cell 1 (v:=.int .i64 th) rfl
  have q2:=HQ.out.cell 2 (v:=.int .i64 0) rfl
  have q3:=HQ.out.cell 3 (v:=.int .i64 at_) rfl
  have q4:=HQ.out.cell 4 (v:=.int .i64 0) rfl
  have q5:=HQ.out.cell 5 (v:=.int .i64 0) rfl
  have q6:=HQ.out.cell 6 (v:=.int .u8 0) rfl
  have o0:=HO.out.cell 0 (v:=.int .u8 0) rfl
  have o1:=HO.out.cell 1 (v:=.int .i64 0) rfl
  have o2:=HO.out.cell 2 (v:=.int .i64 0) rfl
  have o3:=HO.out.cell 3 (v:=.int .i64 0) rfl
  have o4:=HO.out.cell 4 (v:=.int .i64 0) rfl
  have o5:=HO.out.cell 5 (v:=.int .i64 0) rfl
  have o6:=HO.out.cell 6 (v:=.int .u8 0) rfl
  have f0:=HO.out.free 0
  have f1:=HO.out.free 1
  have f2:=HO.out.free 2
  have f3:=HO.out.free 3
  have f4:=HO.out.free 4
  have f5:=HO.out.free 5
  have f6:=HO.out.free 6
  go_wp2_with fail
  rw[rounds_succ]
  go_wp2_with fail
  exact bodyPost_ret (v:=.agg #[.int .u8 4,.int .i64 th,.int .i64 0,.int .i64 at_,.int .i64 0,.int .i64 0,.int .u8 0]) (by simp[results,Tryd.results78,go_sem, *]) rfl ⟨rfl,by(have h:=HB.out;repeat (first | (with_reducible exact h) | (with_reducible refine Below.setCell ?_ (by simp) _) | (with_reducible refine aj ?_) | (with_reducible refine ah ?_ _)))⟩
set_option maxRecDepth 100000 in
set_option maxHeartbeats 4000000 in
theorem TY (th tx at_ v x why:Int) (w:World) (hK:bn w) (he:jr ⟨5,th,tx,at_,v,x,why⟩):Calls Tryd.prog 78 #[jL ⟨5,th,tx,at_,v,x,why⟩] w fun e w'=>e=.returned (jL ⟨5,th,0,0,v,0,0⟩)∧Below w.heap.size w w':=by
 obtain⟨-,-,gY,dU,jI,kH,eU⟩:=he
 dsimp only at gY dU jI kH eU
 have hk:=hK 5 _ rfl
 clear hK
 obtain⟨a,cap,k1,k2,k3⟩:=hk
 obtain⟨kb,ko,rfl,k4⟩:=k3 (by simp)
 clear k2 k3
 have gG:=k4 0 (by simp)
 clear k4
 simp only[List.length_cons,List.length_nil,List.getElem_cons_zero,List.getElem_cons_succ,Nat.add_zero,Nat.zero_add,Nat.reduceMul,Nat.reduceAdd]at k1 gG
 dsimp only[jL]
 have HK:=hid (And.intro k1 (gG))
 clear k1 gG
 go_enter Tryd.func78,Tryd.ntmps78
 go_upto_region 1 with(fail)
 go_cut [3,4] (fun s3 s4 w'=>∃ p q,s3=.pointer (some ⟨p,0,none⟩)∧s4=.pointer (some ⟨q,0,none⟩)∧aA w' p (eG ⟨5,th,tx,at_,v,x,why⟩) 130∧aA w' q (eG ⟨5,th,0,0,0,0,0⟩) 130∧aA w' w.heap.size (eG ⟨5,th,tx,at_,v,x,why⟩) 49∧aA w' (w.heap.size+1) (eG ⟨0,0,0,0,0,0,0⟩) 49∧p≠q∧w.heap.size+1 < p∧w.heap.size+1 < q∧Below w.heap.size w w')
 case first=>
  go_region_held3 (fun w'=>w'.cell? ⟨w.heap.size,0,none⟩=some (.int .u8 5)∧w'.cell? ⟨w.heap.size,1,none⟩=some (.int .i64 th)∧w'.cell? ⟨w.heap.size,2,none⟩=some (.int .i64 tx)∧w'.cell? ⟨w.heap.size,3,none⟩=some (.int .i64 at_)∧w'.cell? ⟨w.heap.size,4,none⟩=some (.int .i64 v)∧w'.cell? ⟨w.heap.size,5,none⟩=some (.int .i64 x)∧w'.cell? ⟨w.heap.size,6,none⟩=some (.int .u8 why)) (go_keep) (fail)
  all_goals (
   go_wp2_with fail
   go_meet
   dsimp only[eG]
   refine⟨_,_,rfl,rfl,?_,?_,?_,?_,by omega,by omega,by omega,by repeat (first | assumption | exact af _ | refine aj ?_ | refine ah ?_ _ | refine ag ?_ (by assumption))⟩
   all_goals (repeat (first | (with_reducible assumption) | (with_reducible exact aA.new _ _ _) | (with_reducible exact aA.new' _ _ _ (by simp[World.setCell])) | (with_reducible refine aA.drew ?_) | (with_reducible refine aA.alloc ?_ _))))
 case rest=>
  obtain⟨p,q,rfl,rfl,hP,hQ,hE,hO,hpq,hp,hq,hb⟩:=hcut
  have c1:=later hb HK.out.1;have pg:=later hb HK.out.2
  have wz:=hb.size
  have e0:=hE.cell 0 (v:=.int .u8 5) rfl
  have lk:=lt_of_cell HK.out.2
  have lg:=lt_of_cell HK.out.1
  have HP:=hid hP
  have HQ:=hid hQ
  have HO:=hid hO
  have HB:=hid hb
  clear hP hQ hE hO hb
  go_wp2_with fail
  refine wp_loop_rounds 2 ?_;rw[rounds_succ]
  go_wp2_with fail
  refine(IX p v _ (HP.out.cell 4 rfl) jI).mono ?_
  rintro e1 w1 ⟨rfl,rfl⟩
  go_wp2_with fail
  refine(IC q _ v (eG ⟨5,th,0,0,0,0,0⟩) 130 _ (HQ.out.alloc _) (by simp[eG]) ?_ ((aA.new _ _ _).cell 0 rfl) jI).mono ?_
  ·have:=HQ.out.lt;omega
  rintro e1 w1 ⟨rfl,hq1,ht1⟩
  have hP1:=ht1.blk (by simp;exact hpq) (HP.out.alloc _)
  have nR:=ht1.blk (by simp;omega) (HO.out.alloc _)
  have c1':=ht1.cell (by simp;omega) (aG c1)
  have hb1:Below w.heap.size w w1:=((HB.out.alloc HB.out.size _).trans ((ht1.below (B:=w.heap.size) (by simp;omega) (by simp;omega)).mono (Nat.le_refl _)))
  have hq2:=jK hq1 (show _=eG ⟨5,th,0,0,v,0,0⟩from rfl)
  have wz1:=hb1.size
  clear c1 pg hq1 ht1
  have c1:=c1'
  clear c1'
  clear HP HQ HO HB
  have HP:=hid hP1
  have HQ:=hid hq2
  have HO:=hid nR
  have HB:=hid hb1
  clear hP1 hq2 nR hb1
  have q0:=HQ.out.cell 0 (v:=.int .u8 5) rfl
  have q1:=HQ.out.cell 1 (v:=.int .i64 th) rfl
  have q2:=HQ.out.cell 2 (v:=.int .i64 0) rfl
  have q3:=HQ.out.cell 3 (v:=.int .i64 0) rfl
  have q4:=HQ.out.cell 4 (v:=.int .i64 v) rfl
  have q5:=HQ.out.cell 5 (v:=.int .i64 0) rfl
  have q6:=HQ.out.cell 6 (v:=.int .u8 0) rfl
  have o0:=HO.out.cell 0 (v:=.int .u8 0) rfl
  have o1:=HO.out.cell 1 (v:=.int .i64 0) rfl
  have o2:=HO.out.cell 2 (v:=.int .i64 0) rfl
  have o3:=HO.out.cell 3 (v:=.int .i64 0) rfl
  have o4:=HO.out.cell 4 (v:=.int .i64 0) rfl
  have o5:=HO.out.cell 5 (v:=.int .i64 0) rfl
  have o6:=HO.out.cell 6 (v:=.int .u8 0) rfl
  have f0:=HO.out.free 0
  have f1:=HO.out.free 1
  have f2:=HO.out.free 2
  have f3:=HO.out.free 3
  have f4:=HO.out.free 4
  have f5:=HO.out.free 5
  have f6:=HO.out.free 6
  go_wp2_with fail
  rw[rounds_succ]
  go_wp2_with fail
  exact bodyPost_ret (v:=.agg #[.int .u8 5,.int .i64 th,.int .i64 0,.int .i64 0,.int .i64 v,.int .i64 0,.int .u8 0]) (by simp[results,Tryd.results78,go_sem, *]) rfl ⟨rfl,by(have h:=HB.out;repeat (first | (with_reducible exact h) | (with_reducible refine Below.setCell ?_ (by simp) _) | (with_reducible refine aj ?_) | (with_reducible refine ah ?_ _)))⟩
set_option maxRecDepth 100000 in
set_option maxHeartbeats 4000000 in
theorem TW (th tx at_ v x why:Int) (w:World) (hK:bn w) (he:jr ⟨6,th,tx,at_,v,x,why⟩):Calls Tryd.prog 78 #[jL ⟨6,th,tx,at_,v,x,why⟩] w fun e w'=>e=.returned (jL ⟨6,th,0,at_,0,0,0⟩)∧Below w.heap.size w w':=by
 obtain⟨-,-,gY,dU,jI,kH,eU⟩:=he
 dsimp only at gY dU jI kH eU
 have hk:=hK 6 _ rfl
 clear hK
 obtain⟨a,cap,k1,k2,k3⟩:=hk
 obtain⟨kb,ko,rfl,k4⟩:=k3 (by simp)
 clear k2 k3
 have gG:=k4 0 (by simp)
 clear k4
 simp only[List.length_cons,List.length_nil,List.getElem_cons_zero,List.getElem_cons_succ,Nat.add_zero,Nat.zero_add,Nat.reduceMul,Nat.reduceAdd]at k1 gG
 dsimp only[jL]
 have HK:=hid (And.intro k1 (gG))
 clear k1 gG
 go_enter Tryd.func78,Tryd.ntmps78
 go_upto_region 1 with(fail)
 go_cut [3,4] (fun s3 s4 w'=>∃ p q,s3=.pointer (some ⟨p,0,none⟩)∧s4=.pointer (some ⟨q,0,none⟩)∧aA w' p (eG ⟨6,th,tx,at_,v,x,why⟩) 130∧aA w' q (eG ⟨6,th,0,0,0,0,0⟩) 130∧aA w' w.heap.size (eG ⟨6,th,tx,at_,v,x,why⟩) 49∧aA w' (w.heap.size+1) (eG ⟨0,0,0,0,0,0,0⟩) 49∧p≠q∧w.heap.size+1 < p∧w.heap.size+1 < q∧Below w.heap.size w w')
 case first=>
  go_region_held3 (fun w'=>w'.cell? ⟨w.heap.size,0,none⟩=some (.int .u8 6)∧w'.cell? ⟨w.heap.size,1,none⟩=some (.int .i64 th)∧w'.cell? ⟨w.heap.size,2,none⟩=some (.int .i64 tx)∧w'.cell? ⟨w.heap.size,3,none⟩=some (.int .i64 at_)∧w'.cell? ⟨w.heap.size,4,none⟩=some (.int .i64 v)∧w'.cell? ⟨w.heap.size,5,none⟩=some (.int .i64 x)∧w'.cell? ⟨w.heap.size,6,none⟩=some (.int .u8 why)) (go_keep) (fail)
  all_goals (
   go_wp2_with fail
   go_meet
   dsimp only[eG]
   refine⟨_,_,rfl,rfl,?_,?_,?_,?_,by omega,by omega,by omega,by repeat (first | assumption | exact af _ | refine aj ?_ | refine ah ?_ _ | refine ag ?_ (by assumption))⟩
   all_goals (repeat (first | (with_reducible assumption) | (with_reducible exact aA.new _ _ _) | (with_reducible exact aA.new' _ _ _ (by simp[World.setCell])) | (with_reducible refine aA.drew ?_) | (with_reducible refine aA.alloc ?_ _))))
 case rest=>
  obtain⟨p,q,rfl,rfl,hP,hQ,hE,hO,hpq,hp,hq,hb⟩:=hcut
  have c1:=later hb HK.out.1;have pg:=later hb HK.out.2
  have wz:=hb.size
  have e0:=hE.cell 0 (v:=.int .u8 6) rfl
  have lk:=lt_of_cell HK.out.2
  have lg:=lt_of_cell HK.out.1
  have HP:=hid hP
  have HQ:=hid hQ
  have HO:=hid hO
  have HB:=hid hb
  clear hP hQ hE hO hb
  go_wp2_with fail
  refine wp_loop_rounds 2 ?_;rw[rounds_succ]
  go_wp2_with fail
  refine(get_at p at_ _ (HP.out.cell 3 rfl) dU).mono ?_
  rintro e1 w1 ⟨rfl,rfl⟩
  go_wp2_with fail
  refine(ru q _ at_ (eG ⟨6,th,0,0,0,0,0⟩) 130 _ (HQ.out.alloc _) (by simp[eG]) ?_ ((aA.new _ _ _).cell 0 rfl) dU).mono ?_
  ·have:=HQ.out.lt;omega
  rintro e1 w1 ⟨rfl,hq1,ht1⟩
  have hP1:=ht1.blk (by simp;exact hpq) (HP.out.alloc _)
  have nR:=ht1.blk (by simp;omega) (HO.out.alloc _)
  have c1':=ht1.cell (by simp;omega) (aG c1)
  have hb1:Below w.heap.size w w1:=((HB.out.alloc HB.out.size _).trans ((ht1.below (B:=w.heap.size) (by simp;omega) (by simp;omega)).mono (Nat.le_refl _)))
  have hq2:=jK hq1 (show _=eG ⟨6,th,0,at_,0,0,0⟩from rfl)
  have wz1:=hb1.size
  clear c1 pg hq1 ht1
  have c1:=c1'
  clear c1'
  clear HP HQ HO HB
  have HP:=hid hP1
  have HQ:=hid hq2
  have HO:=hid nR
  have HB:=hid hb1
  clear hP1 hq2 nR hb1
  have q0:=HQ.out.cell 0 (v:=.int .u8 6) rfl
  have q1:=HQ.out.cell 1 (v:=.int .i64 th) rfl
  have q2:=HQ.out.cell 2 (v:=.int .i64 0) rfl
  have q3:=HQ.out.cell 3 (v:=.int .i64 at_) rfl
  have q4:=HQ.out.cell 4 (v:=.int .i64 0) rfl
  have q5:=HQ.out.cell 5 (v:=.int .i64 0) rfl
  have q6:=HQ.out.cell 6 (v:=.int .u8 0) rfl
  have o0:=HO.out.cell 0 (v:=.int .u8 0) rfl
  have o1:=HO.out.cell 1 (v:=.int .i64 0) rfl
  have o2:=HO.out.cell 2 (v:=.int .i64 0) rfl
  have o3:=HO.out.cell 3 (v:=.int .i64 0) rfl
  have o4:=HO.out.cell 4 (v:=.int .i64 0) rfl
  have o5:=HO.out.cell 5 (v:=.int .i64 0) rfl
  have o6:=HO.out.cell 6 (v:=.int .u8 0) rfl
  have f0:=HO.out.free 0
  have f1:=HO.out.free 1
  have f2:=HO.out.free 2
  have f3:=HO.out.free 3
  have f4:=HO.out.free 4
  have f5:=HO.out.free 5
  have f6:=HO.out.free 6
  go_wp2_with fail
  rw[rounds_succ]
  go_wp2_with fail
  exact bodyPost_ret (v:=.agg #[.int .u8 6,.int .i64 th,.int .i64 0,.int .i64 at_,.int .i64 0,.int .i64 0,.int .u8 0]) (by simp[results,Tryd.results78,go_sem, *]) rfl ⟨rfl,by(have h:=HB.out;repeat (first | (with_reducible exact h) | (with_reducible refine Below.setCell ?_ (by simp) _) | (with_reducible refine aj ?_) | (with_reducible refine ah ?_ _)))⟩
set_option maxRecDepth 100000 in
set_option maxHeartbeats 4000000 in
theorem TV (th tx at_ v x why:Int) (w:World) (hK:bn w) (he:jr ⟨7,th,tx,at_,v,x,why⟩):Calls Tryd.prog 78 #[jL ⟨7,th,tx,at_,v,x,why⟩] w fun e w'=>e=.returned (jL ⟨7,th,0,0,v,0,0⟩)∧Below w.heap.size w w':=by
 obtain⟨-,-,gY,dU,jI,kH,eU⟩:=he
 dsimp only at gY dU jI kH eU
 have hk:=hK 7 _ rfl
 clear hK
 obtain⟨a,cap,k1,k2,k3⟩:=hk
 obtain⟨kb,ko,rfl,k4⟩:=k3 (by simp)
 clear k2 k3
 have gG:=k4 0 (by simp)
 clear k4
 simp only[List.length_cons,List.length_nil,List.getElem_cons_zero,List.getElem_cons_succ,Nat.add_zero,Nat.zero_add,Nat.reduceMul,Nat.reduceAdd]at k1 gG
 dsimp only[jL]
 have HK:=hid (And.intro k1 (gG))
 clear k1 gG
 go_enter Tryd.func78,Tryd.ntmps78
 go_upto_region 1 with(fail)
 go_cut [3,4] (fun s3 s4 w'=>∃ p q,s3=.pointer (some ⟨p,0,none⟩)∧s4=.pointer (some ⟨q,0,none⟩)∧aA w' p (eG ⟨7,th,tx,at_,v,x,why⟩) 130∧aA w' q (eG ⟨7,th,0,0,0,0,0⟩) 130∧aA w' w.heap.size (eG ⟨7,th,tx,at_,v,x,why⟩) 49∧aA w' (w.heap.size+1) (eG ⟨0,0,0,0,0,0,0⟩) 49∧p≠q∧w.heap.size+1 < p∧w.heap.size+1 < q∧Below w.heap.size w w')
 case first=>
  go_region_held3 (fun w'=>w'.cell? ⟨w.heap.size,0,none⟩=some (.int .u8 7)∧w'.cell? ⟨w.heap.size,1,none⟩=some (.int .i64 th)∧w'.cell? ⟨w.heap.size,2,none⟩=some (.int .i64 tx)∧w'.cell? ⟨w.heap.size,3,none⟩=some (.int .i64 at_)∧w'.cell? ⟨w.heap.size,4,none⟩=some (.int .i64 v)∧w'.cell? ⟨w.heap.size,5,none⟩=some (.int .i64 x)∧w'.cell? ⟨w.heap.size,6,none⟩=some (.int .u8 why)) (go_keep) (fail)
  all_goals (
   go_wp2_with fail
   go_meet
   dsimp only[eG]
   refine⟨_,_,rfl,rfl,?_,?_,?_,?_,by omega,by omega,by omega,by repeat (first | assumption | exact af _ | refine aj ?_ | refine ah ?_ _ | refine ag ?_ (by assumption))⟩
   all_goals (repeat (first | (with_reducible assumption) | (with_reducible exact aA.new _ _ _) | (with_reducible exact aA.new' _ _ _ (by simp[World.setCell])) | (with_reducible refine aA.drew ?_) | (with_reducible refine aA.alloc ?_ _))))
 case rest=>
  obtain⟨p,q,rfl,rfl,hP,hQ,hE,hO,hpq,hp,hq,hb⟩:=hcut
  have c1:=later hb HK.out.1;have pg:=later hb HK.out.2
  have wz:=hb.size
  have e0:=hE.cell 0 (v:=.int .u8 7) rfl
  have lk:=lt_of_cell HK.out.2
  have lg:=lt_of_cell HK.out.1
  have HP:=hid hP
  have HQ:=hid hQ
  have HO:=hid hO
  have HB:=hid hb
  clear hP hQ hE hO hb
  go_wp2_with fail
  refine wp_loop_rounds 2 ?_;rw[rounds_succ]
  go_wp2_with fail
  refine(IX p v _ (HP.out.cell 4 rfl) jI).mono ?_
  rintro e1 w1 ⟨rfl,rfl⟩
  go_wp2_with fail
  refine(IC q _ v (eG ⟨7,th,0,0,0,0,0⟩) 130 _ (HQ.out.alloc _) (by simp[eG]) ?_ ((aA.new _ _ _).cell 0 rfl) jI).mono ?_
  ·have:=HQ.out.lt;omega
  rintro e1 w1 ⟨rfl,hq1,ht1⟩
  have hP1:=ht1.blk (by simp;exact hpq) (HP.out.alloc _)
  have nR:=ht1.blk (by simp;omega) (HO.out.alloc _)
  have c1':=ht1.cell (by simp;omega) (aG c1)
  have hb1:Below w.heap.size w w1:=((HB.out.alloc HB.out.size _).trans ((ht1.below (B:=w.heap.size) (by simp;omega) (by simp;omega)).mono (Nat.le_refl _)))
  have hq2:=jK hq1 (show _=eG ⟨7,th,0,0,v,0,0⟩from rfl)
  have wz1:=hb1.size
  clear c1 pg hq1 ht1
  have c1:=c1'
  clear c1'
  clear HP HQ HO HB
  have HP:=hid hP1
  have HQ:=hid hq2
  have HO:=hid nR
  have HB:=hid hb1
  clear hP1 hq2 nR hb1
  have q0:=HQ.out.cell 0 (v:=.int .u8 7) rfl
  have q1:=HQ.out.cell 1 (v:=.int .i64 th) rfl
  have q2:=HQ.out.cell 2 (v:=.int .i64 0) rfl
  have q3:=HQ.out.cell 3 (v:=.int .i64 0) rfl
  have q4:=HQ.out.cell 4 (v:=.int .i64 v) rfl
  have q5:=HQ.out.cell 5 (v:=.int .i64 0) rfl
  have q6:=HQ.out.cell 6 (v:=.int .u8 0) rfl
  have o0:=HO.out.cell 0 (v:=.int .u8 0) rfl
  have o1:=HO.out.cell 1 (v:=.int .i64 0) rfl
  have o2:=HO.out.cell 2 (v:=.int .i64 0) rfl
  have o3:=HO.out.cell 3 (v:=.int .i64 0) rfl
  have o4:=HO.out.cell 4 (v:=.int .i64 0) rfl
  have o5:=HO.out.cell 5 (v:=.int .i64 0) rfl
  have o6:=HO.out.cell 6 (v:=.int .u8 0) rfl
  have f0:=HO.out.free 0
  have f1:=HO.out.free 1
  have f2:=HO.out.free 2
  have f3:=HO.out.free 3
  have f4:=HO.out.free 4
  have f5:=HO.out.free 5
  have f6:=HO.out.free 6
  go_wp2_with fail
  rw[rounds_succ]
  go_wp2_with fail
  exact bodyPost_ret (v:=.agg #[.int .u8 7,.int .i64 th,.int .i64 0,.int .i64 0,.int .i64 v,.int .i64 0,.int .u8 0]) (by simp[results,Tryd.results78,go_sem, *]) rfl ⟨rfl,by(have h:=HB.out;repeat (first | (with_reducible exact h) | (with_reducible refine Below.setCell ?_ (by simp) _) | (with_reducible refine aj ?_) | (with_reducible refine ah ?_ _)))⟩
set_option maxRecDepth 100000 in
set_option maxHeartbeats 4000000 in
theorem TU (th tx at_ v x why:Int) (w:World) (hK:bn w) (he:jr ⟨8,th,tx,at_,v,x,why⟩):Calls Tryd.prog 78 #[jL ⟨8,th,tx,at_,v,x,why⟩] w fun e w'=>e=.returned (jL ⟨8,th,0,at_,0,x,0⟩)∧Below w.heap.size w w':=by
 obtain⟨-,-,gY,dU,jI,kH,eU⟩:=he
 dsimp only at gY dU jI kH eU
 have hk:=hK 8 _ rfl
 clear hK
 obtain⟨a,cap,k1,k2,k3⟩:=hk
 obtain⟨kb,ko,rfl,k4⟩:=k3 (by simp)
 clear k2 k3
 have gG:=k4 0 (by simp)
 have qm:=k4 1 (by simp)
 clear k4
 simp only[List.length_cons,List.length_nil,List.getElem_cons_zero,List.getElem_cons_succ,Nat.add_zero,Nat.zero_add,Nat.reduceMul,Nat.reduceAdd]at k1 gG qm
 dsimp only[jL]
 have HK:=hid (And.intro k1 (And.intro gG qm))
 clear k1 gG qm
 go_enter Tryd.func78,Tryd.ntmps78
 go_upto_region 1 with(fail)
 go_cut [3,4] (fun s3 s4 w'=>∃ p q,s3=.pointer (some ⟨p,0,none⟩)∧s4=.pointer (some ⟨q,0,none⟩)∧aA w' p (eG ⟨8,th,tx,at_,v,x,why⟩) 130∧aA w' q (eG ⟨8,th,0,0,0,0,0⟩) 130∧aA w' w.heap.size (eG ⟨8,th,tx,at_,v,x,why⟩) 49∧aA w' (w.heap.size+1) (eG ⟨0,0,0,0,0,0,0⟩) 49∧p≠q∧w.heap.size+1 < p∧w.heap.size+1 < q∧Below w.heap.size w w')
 case first=>
  go_region_held3 (fun w'=>w'.cell? ⟨w.heap.size,0,none⟩=some (.int .u8 8)∧w'.cell? ⟨w.heap.size,1,none⟩=some (.int .i64 th)∧w'.cell? ⟨w.heap.size,2,none⟩=some (.int .i64 tx)∧w'.cell? ⟨w.heap.size,3,none⟩=some (.int .i64 at_)∧w'.cell? ⟨w.heap.size,4,none⟩=some (.int .i64 v)∧w'.cell? ⟨w.heap.size,5,none⟩=some (.int .i64 x)∧w'.cell? ⟨w.heap.size,6,none⟩=some (.int .u8 why)) (go_keep) (fail)
  all_goals (
   go_wp2_with fail
   go_meet
   dsimp only[eG]
   refine⟨_,_,rfl,rfl,?_,?_,?_,?_,by omega,by omega,by omega,by repeat (first | assumption | exact af _ | refine aj ?_ | refine ah ?_ _ | refine ag ?_ (by assumption))⟩
   all_goals (repeat (first | (with_reducible assumption) | (with_reducible exact aA.new _ _ _) | (with_reducible exact aA.new' _ _ _ (by simp[World.setCell])) | (with_reducible refine aA.drew ?_) | (with_reducible refine aA.alloc ?_ _))))
 case rest=>
  obtain⟨p,q,rfl,rfl,hP,hQ,hE,hO,hpq,hp,hq,hb⟩:=hcut
  have c1:=later hb HK.out.1;have pg:=later hb HK.out.2.1;have mM:=later hb HK.out.2.2
  have wz:=hb.size
  have e0:=hE.cell 0 (v:=.int .u8 8) rfl
  have lk:=lt_of_cell HK.out.2.1
  have lg:=lt_of_cell HK.out.1
  have HP:=hid hP
  have HQ:=hid hQ
  have HO:=hid hO
  have HB:=hid hb
  clear hP hQ hE hO hb
  go_wp2_with fail
  refine wp_loop_rounds 3 ?_;rw[rounds_succ]
  go_wp2_with fail
  refine(get_at p at_ _ (HP.out.cell 3 rfl) dU).mono ?_
  rintro e1 w1 ⟨rfl,rfl⟩
  go_wp2_with fail
  refine(ru q _ at_ (eG ⟨8,th,0,0,0,0,0⟩) 130 _ (HQ.out.alloc _) (by simp[eG]) ?_ ((aA.new _ _ _).cell 0 rfl) dU).mono ?_
  ·have:=HQ.out.lt;omega
  rintro e1 w1 ⟨rfl,hq1,ht1⟩
  have hP1:=ht1.blk (by simp;exact hpq) (HP.out.alloc _)
  have nR:=ht1.blk (by simp;omega) (HO.out.alloc _)
  have c1':=ht1.cell (by simp;omega) (aG c1)
  have oO:=ht1.cell (by simp;omega) (aG mM)
  have hb1:Below w.heap.size w w1:=((HB.out.alloc HB.out.size _).trans ((ht1.below (B:=w.heap.size) (by simp;omega) (by simp;omega)).mono (Nat.le_refl _)))
  have hq2:=jK hq1 (show _=eG ⟨8,th,0,at_,0,0,0⟩from rfl)
  have wz1:=hb1.size
  clear c1 pg mM hq1 ht1
  have c1:=c1'
  clear c1'
  have mM:=oO
  clear oO
  clear HP HQ HO HB
  have HP:=hid hP1
  have HQ:=hid hq2
  have HO:=hid nR
  have HB:=hid hb1
  clear hP1 hq2 nR hb1
  go_wp2_with fail
  rw[rounds_succ]
  go_wp2_with fail
  refine(Rq p x _ (HP.out.cell 5 rfl) kH).mono ?_
  rintro e1 w1 ⟨rfl,rfl⟩
  go_wp2_with fail
  refine(Q7 q _ x (eG ⟨8,th,0,at_,0,0,0⟩) 130 _ (HQ.out.alloc _) (by simp[eG]) ?_ ((aA.new _ _ _).cell 0 rfl) kH).mono ?_
  ·have:=HQ.out.lt;omega
  rintro e1 w1 ⟨rfl,hq1,ht1⟩
  have hP1:=ht1.blk (by simp;exact hpq) (HP.out.alloc _)
  have nR:=ht1.blk (by simp;omega) (HO.out.alloc _)
  have c1':=ht1.cell (by simp;omega) (aG c1)
  have hb1:Below w.heap.size w w1:=((HB.out.alloc HB.out.size _).trans ((ht1.below (B:=w.heap.size) (by simp;omega) (by simp;omega)).mono (Nat.le_refl _)))
  have hq2:=jK hq1 (show _=eG ⟨8,th,0,at_,0,x,0⟩from rfl)
  have wz1:=hb1.size
  clear c1 mM hq1 ht1
  have c1:=c1'
  clear c1'
  clear HP HQ HO HB
  have HP:=hid hP1
  have HQ:=hid hq2
  have HO:=hid nR
  have HB:=hid hb1
  clear hP1 hq2 nR hb1
  have q0:=HQ.out.cell 0 (v:=.int .u8 8) rfl
  have q1:=HQ.out.cell 1 (v:=.int .i64 th) rfl
  have q2:=HQ.out.cell 2 (v:=.int .i64 0) rfl
  have q3:=HQ.out.cell 3 (v:=.int .i64 at_) rfl
  have q4:=HQ.out.cell 4 (v:=.int .i64 0) rfl
  have q5:=HQ.out.cell 5 (v:=.int .i64 x) rfl
  have q6:=HQ.out.cell 6 (v:=.int .u8 0) rfl
  have o0:=HO.out.cell 0 (v:=.int .u8 0) rfl
  have o1:=HO.out.cell 1 (v:=.int .i64 0) rfl
  have o2:=HO.out.cell 2 (v:=.int .i64 0) rfl
  have o3:=HO.out.cell 3 (v:=.int .i64 0) rfl
  have o4:=HO.out.cell 4 (v:=.int .i64 0) rfl
  have o5:=HO.out.cell 5 (v:=.int .i64 0) rfl
  have o6:=HO.out.cell 6 (v:=.int .u8 0) rfl
  have f0:=HO.out.free 0
  have f1:=HO.out.free 1
  have f2:=HO.out.free 2
  have f3:=HO.out.free 3
  have f4:=HO.out.free 4
  have f5:=HO.out.free 5
  have f6:=HO.out.free 6
  go_wp2_with fail
  rw[rounds_succ]
  go_wp2_with fail
  exact bodyPost_ret (v:=.agg #[.int .u8 8,.int .i64 th,.int .i64 0,.int .i64 at_,.int .i64 0,.int .i64 x,.int .u8 0]) (by simp[results,Tryd.results78,go_sem, *]) rfl ⟨rfl,by(have h:=HB.out;repeat (first | (with_reducible exact h) | (with_reducible refine Below.setCell ?_ (by simp) _) | (with_reducible refine aj ?_) | (with_reducible refine ah ?_ _)))⟩
set_option maxRecDepth 100000 in
set_option maxHeartbeats 4000000 in
theorem TT (th tx at_ v x why:Int) (w:World) (hK:bn w) (he:jr ⟨9,th,tx,at_,v,x,why⟩):Calls Tryd.prog 78 #[jL ⟨9,th,tx,at_,v,x,why⟩] w fun e w'=>e=.returned (jL ⟨9,th,0,at_,0,0,0⟩)∧Below w.heap.size w w':=by
 obtain⟨-,-,gY,dU,jI,kH,eU⟩:=he
 dsimp only at gY dU jI kH eU
 have hk:=hK 9 _ rfl
 clear hK
 obtain⟨a,cap,k1,k2,k3⟩:=hk
 obtain⟨kb,ko,rfl,k4⟩:=k3 (by simp)
 clear k2 k3
 have gG:=k4 0 (by simp)
 clear k4
 simp only[List.length_cons,List.length_nil,List.getElem_cons_zero,List.getElem_cons_succ,Nat.add_zero,Nat.zero_add,Nat.reduceMul,Nat.reduceAdd]at k1 gG
 dsimp only[jL]
 have HK:=hid (And.intro k1 (gG))
 clear k1 gG
 go_enter Tryd.func78,Tryd.ntmps78
 go_upto_region 1 with(fail)
 go_cut [3,4] (fun s3 s4 w'=>∃ p q,s3=.pointer (some ⟨p,0,none⟩)∧s4=.pointer (some ⟨q,0,none⟩)∧aA w' p (eG ⟨9,th,tx,at_,v,x,why⟩) 130∧aA w' q (eG ⟨9,th,0,0,0,0,0⟩) 130∧aA w' w.heap.size (eG ⟨9,th,tx,at_,v,x,why⟩) 49∧aA w' (w.heap.size+1) (eG ⟨0,0,0,0,0,0,0⟩) 49∧p≠q∧w.heap.size+1 < p∧w.heap.size+1 < q∧Below w.heap.size w w')
 case first=>
  go_region_held3 (fun w'=>w'.cell? ⟨w.heap.size,0,none⟩=some (.int .u8 9)∧w'.cell? ⟨w.heap.size,1,none⟩=some (.int .i64 th)∧w'.cell? ⟨w.heap.size,2,none⟩=some (.int .i64 tx)∧w'.cell? ⟨w.heap.size,3,none⟩=some (.int .i64 at_)∧w'.cell? ⟨w.heap.size,4,none⟩=some (.int .i64 v)∧w'.cell? ⟨w.heap.size,5,none⟩=some (.int .i64 x)∧w'.cell? ⟨w.heap.size,6,none⟩=some (.int .u8 why)) (go_keep) (fail)
  all_goals (
   go_wp2_with fail
   go_meet
   dsimp only[eG]
   refine⟨_,_,rfl,rfl,?_,?_,?_,?_,by omega,by omega,by omega,by repeat (first | assumption | exact af _ | refine aj ?_ | refine ah ?_ _ | refine ag ?_ (by assumption))⟩
   all_goals (repeat (first | (with_reducible assumption) | (with_reducible exact aA.new _ _ _) | (with_reducible exact aA.new' _ _ _ (by simp[World.setCell])) | (with_reducible refine aA.drew ?_) | (with_reducible refine aA.alloc ?_ _))))
 case rest=>
  obtain⟨p,q,rfl,rfl,hP,hQ,hE,hO,hpq,hp,hq,hb⟩:=hcut
  have c1:=later hb HK.out.1;have pg:=later hb HK.out.2
  have wz:=hb.size
  have e0:=hE.cell 0 (v:=.int .u8 9) rfl
  have lk:=lt_of_cell HK.out.2
  have lg:=lt_of_cell HK.out.1
  have HP:=hid hP
  have HQ:=hid hQ
  have HO:=hid hO
  have HB:=hid hb
  clear hP hQ hE hO hb
  go_wp2_with fail
  refine wp_loop_rounds 2 ?_;rw[rounds_succ]
  go_wp2_with fail
  refine(get_at p at_ _ (HP.out.cell 3 rfl) dU).mono ?_
  rintro e1 w1 ⟨rfl,rfl⟩
  go_wp2_with fail
  refine(ru q _ at_ (eG ⟨9,th,0,0,0,0,0⟩) 130 _ (HQ.out.alloc _) (by simp[eG]) ?_ ((aA.new _ _ _).cell 0 rfl) dU).mono ?_
  ·have:=HQ.out.lt;omega
  rintro e1 w1 ⟨rfl,hq1,ht1⟩
  have hP1:=ht1.blk (by simp;exact hpq) (HP.out.alloc _)
  have nR:=ht1.blk (by simp;omega) (HO.out.alloc _)
  have c1':=ht1.cell (by simp;omega) (aG c1)
  have hb1:Below w.heap.size w w1:=((HB.out.alloc HB.out.size _).trans ((ht1.below (B:=w.heap.size) (by simp;omega) (by simp;omega)).mono (Nat.le_refl _)))
  have hq2:=jK hq1 (show _=eG ⟨9,th,0,at_,0,0,0⟩from rfl)
  have wz1:=hb1.size
  clear c1 pg hq1 ht1
  have c1:=c1'
  clear c1'
  clear HP HQ HO HB
  have HP:=hid hP1
  have HQ:=hid hq2
  have HO:=hid nR
  have HB:=hid hb1
  clear hP1 hq2 nR hb1
  have q0:=HQ.out.cell 0 (v:=.int .u8 9) rfl
  have q1:=HQ.out.cell 1 (v:=.int .i64 th) rfl
  have q2:=HQ.out.cell 2 (v:=.int .i64 0) rfl
  have q3:=HQ.out.cell 3 (v:=.int .i64 at_) rfl
  have q4:=HQ.out.cell 4 (v:=.int .i64 0) rfl
  have q5:=HQ.out.cell 5 (v:=.int .i64 0) rfl
  have q6:=HQ.out.cell 6 (v:=.int .u8 0) rfl
  have o0:=HO.out.cell 0 (v:=.int .u8 0) rfl
  have o1:=HO.out.cell 1 (v:=.int .i64 0) rfl
  have o2:=HO.out.cell 2 (v:=.int .i64 0) rfl
  have o3:=HO.out.cell 3 (v:=.int .i64 0) rfl
  have o4:=HO.out.cell 4 (v:=.int .i64 0) rfl
  have o5:=HO.out.cell 5 (v:=.int .i64 0) rfl
  have o6:=HO.out.cell 6 (v:=.int .u8 0) rfl
  have f0:=HO.out.free 0
  have f1:=HO.out.free 1
  have f2:=HO.out.free 2
  have f3:=HO.out.free 3
  have f4:=HO.out.free 4
  have f5:=HO.out.free 5
  have f6:=HO.out.free 6
  go_wp2_with fail
  rw[rounds_succ]
  go_wp2_with fail
  exact bodyPost_ret (v:=.agg #[.int .u8 9,.int .i64 th,.int .i64 0,.int .i64 at_,.int .i64 0,.int .i64 0,.int .u8 0]) (by simp[results,Tryd.results78,go_sem, *]) rfl ⟨rfl,by(have h:=HB.out;repeat (first | (with_reducible exact h) | (with_reducible refine Below.setCell ?_ (by simp) _) | (with_reducible refine aj ?_) | (with_reducible refine ah ?_ _)))⟩
end Go.Proofs.YtcddlnmcjmhbcaaDoor
-- short
