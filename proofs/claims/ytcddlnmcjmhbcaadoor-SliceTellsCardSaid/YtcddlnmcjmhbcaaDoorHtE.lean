/-
  Joined texts: HiO HiU.
-/
import Derived.Test.YtcddlnmcjmhbcaaDoorHtC
import Derived.Test.YtcddlnmcjmhbcaaDoorHtB
import Derived.Sort.CutIn
import Derived.Test.YtcddlnmcjmhbcaaDoorRgC
namespace Go.Proofs.YtcddlnmcjmhbcaaDoor
set_option linter.unusedVariables false
set_option linter.unusedSimpArgs false
open Go Go.RowKit Go.Shelf
attribute [local go_sem] Oper.semAt_some
theorem IV:(Tryd.prog.info? 58).map (fun i=>(i.zero,i.size,i.bytes))=some (some (.agg #[.int .i64 0,.int .i64 0,.int .i64 0,.int .i64 0,.int .i64 0,.int .i64 0,.bool false,.slice none 0 0,.slice none 0 0]),9,104):=by kernel_rfl
theorem Ed:(Tryd.prog.info? 61).map (fun i=>(i.zero,i.size,i.bytes))=some (some (.agg #[.int .i64 0,.int .i64 0]),2,16):=by kernel_rfl
def zM (W:World) (n₀:Nat) (v:Value) (L:List aH):Prop:=∃ H,W.ownsRow n₀ 58 9 v L.length (kK L H)∧(∀ k b,k < L.length→W.ownsRow n₀ 61 2 (H k b) (rC (L.getD k aH.zero) b).length (dw (rC (L.getD k aH.zero) b)))
def OfI (T V S:Int) (a:Option Addr) (l:List Ev) (cap:Nat) (w:World) (B:Nat) (h:HS) (W:World):Prop:=
 (∃ vo vw H,aA W B #[vo] 29∧aA W (B+1) #[vw] 32∧bJ w.heap.size W vo vw h H)∧aA W w.heap.size #[.int .i64 T,.int .i64 V,.int .i64 S,.slice a l.length cap] 24∧Below w.heap.size w W
def QD (T V S:Int) (l:List Ev) (w:World) (e:Ending) (w':World):Prop:=
 ∃ v,e=.returned (.tuple #[v,.int .i64 (aW T V S l).2])∧Below w.heap.size w w'∧zM w' w.heap.size v (if(aW T V S l).2=0 then(az l).out else[])
set_option maxRecDepth 100000 in
set_option maxHeartbeats 4000000 in
theorem Vs (T V S:Int) (a:Option Addr) (l:List Ev) (cap:Nat) (w:World) (hE:cO w a l) (hK:bn w) (hT:gJ w) (hc:(aW T V S l).2≠0):
  Calls Tryd.prog 8 #[oZ T V S a l.length cap] w (QD T V S l w):=by
 obtain⟨W1,hW1⟩:∃ W1,W1=w.alloc (.cells #[.int .i64 T,.int .i64 V,.int .i64 S,.slice a l.length cap] 24):=⟨_,rfl⟩
 have hB1:Below w.heap.size w W1:=by rw[hW1];exact ah (af _) _
 have HC:=hid (sV T V S a l cap W1 (hE.below hB1) (hK.below hB1) (hT.below hB1))
 have HP:∀ W',Below W1.heap.size W1 W'→QD T V S l w (.returned (.tuple #[.slice none 0 0,.int .i64 (aW T V S l).2])) W':=fun W' hb=>⟨_,rfl,ag hB1 hb,by rw[if_neg hc];exact⟨fun _ _=>.slice none 0 0,World.ownsRow_nil _ _ _ _,fun k b hk=>absurd hk (Nat.not_lt_zero _)⟩⟩
 have HP:=hid HP
 obtain⟨Q,hQ⟩:∃ Q,Q=QD T V S l w:=⟨_,rfl⟩
 rw[←hQ]at HP⊢
 obtain⟨p,q,hpq⟩:∃ p q,aW T V S l=(p,q):=⟨_,_,rfl⟩
 rw[hpq]at HC HP hc
 dsimp only at HC HP hc
 have g1:(q==0)=false:=beq_eq_false_iff_ne.2 hc
 have g2:(q !=0)=true:=bne_iff_ne.2 hc
 dsimp only[oZ]at HC⊢
 have HW1:=hid hW1
 clear hE hK hT hc hQ hW1 hB1 hpq
 go_enter Tryd.func8,Tryd.ntmps8
 go_wp2_with fail
 rw[←HW1.out]
 refine HC.out.mono ?_
 rintro e' w2 ⟨rfl,hb2⟩
 go_wp2_with fail
 exact HP.out _ hb2
theorem FP (a:aH) (o:Int) (e:Ev) (i:Int):(bK a o e i).reads.length≤a.reads.length+1∧(bK a o e i).writes.length≤a.writes.length+1:=by
 unfold bK
 split
 ·simp
 ·split
  ·simp
  ·split
   ·simp
   ·split
    ·simp
    ·split
     ·simp
     ·split <;> simp
theorem um:∀ (l:List Ev) (h:HS) (i:Int) (n:Nat),(∀ q∈h.out,q.reads.length≤n∧q.writes.length≤n)→∀ q∈(gZ h i l).out,q.reads.length≤n+l.length∧q.writes.length≤n+l.length
 | [],h,i,n,hn,q,hq=>hn q hq
 | e :: l,h,i,n,hn,q,hq=>by
  have h1:∀ q∈(dS h i e).out,q.reads.length≤n+1∧q.writes.length≤n+1:=by
   intro q hq
   unfold dS at hq
   split at hq
   ·rcases List.mem_append.1 hq with hq | hq
    ·have:=hn q hq;omega
    ·rw[List.mem_singleton]at hq;subst hq;exact⟨Nat.zero_le _,Nat.zero_le _⟩
   ·split at hq
    ·have:=hn q hq;omega
    ·rcases List.mem_or_eq_of_mem_set hq with hq | rfl
     ·have:=hn q hq;omega
     ·have h2:=FP (h.out.getD (h.last e.th) aH.zero) (h.owned.getD (h.last e.th) 0) e i
      have h3:(h.out.getD (h.last e.th) aH.zero).reads.length≤n∧(h.out.getD (h.last e.th) aH.zero).writes.length≤n:=by
       rw[List.getD_eq_getElem?_getD]
       cases hg:h.out[h.last e.th]? with
       | none=>exact⟨Nat.zero_le _,Nat.zero_le _⟩
       | some a=>exact hn a (List.mem_of_getElem? hg)
      omega
  have:=um l (dS h i e) (i+1) (n+1) h1 q hq
  simp only[List.length_cons]
  omega
set_option maxRecDepth 100000 in
set_option maxHeartbeats 4000000 in
theorem Vr (T V S:Int) (a:Option Addr) (l:List Ev) (cap:Nat) (w:World) (hE:cO w a l) (hK:bn w) (hT:gJ w) (hc:(aW T V S l).2=0):
  Calls Tryd.prog 8 #[oZ T V S a l.length cap] w (QD T V S l w):=by
 obtain⟨W1,hW1⟩:∃ W1,W1=w.alloc (.cells #[.int .i64 T,.int .i64 V,.int .i64 S,.slice a l.length cap] 24):=⟨_,rfl⟩
 have hB1:Below w.heap.size w W1:=by rw[hW1];exact ah (af _) _
 have hbx:aA W1 w.heap.size #[.int .i64 T,.int .i64 V,.int .i64 S,.slice a l.length cap] 24:=by rw[hW1];exact aA.new _ _ _
 have HC:=hid (sV T V S a l cap W1 (hE.below hB1) (hK.below hB1) (hT.below hB1))
 have HP:∀ v W',Below w.heap.size w W'→zM W' w.heap.size v (az l).out→QD T V S l w (.returned (.tuple #[v,.int .i64 0])) W':=fun v W' hb ho=>⟨v,by rw[hc],hb,by rw[if_pos hc];exact ho⟩
 have HP:=hid HP
 obtain⟨Q,hQ⟩:∃ Q,Q=QD T V S l w:=⟨_,rfl⟩
 rw[←hQ]at HP⊢
 obtain⟨hsz0,hlen,sF,Ro⟩:=rX hc
 obtain⟨p,q,hpq⟩:∃ p q,aW T V S l=(p,q):=⟨_,_,rfl⟩
 rw[hpq]at HC hc
 dsimp only at HC hc
 subst hc
 dsimp only[oZ]at HC⊢
 have HW1:=hid hW1
 have HB1:=hid hB1
 have HE:=hid hE
 have HL:=hid hlen
 have HX:=hid hbx
 have HH:=hid Ro
 have Le:=hid (zq T V S a l.length cap)
 dsimp only[oZ]at Le
 clear hE hK hT hQ hW1 hB1 hpq hlen hbx Ro hsz0
 refine(callsIn_wide (n:=3)).1 ?_
 refine callsIn_of_wp_marks Tryd.func8 rfl trivial ?_ rfl
 simp only[Tryd.ntmps8,List.size_toArray,List.length_cons,List.length_nil,Nat.reduceAdd,Nat.reduceSub,Array.replicate_succ,Array.replicate_zero,List.push_toArray,List.append_toArray,List.nil_append,List.cons_append]
 gi_wp2_with (first
  | (refine⟨trivial,?_⟩;gi_at_call 6;rw[←HW1.out];refine(callsIn_wide.2 HC.out).mono ?_;rintro e' w2 ⟨rfl,hb2⟩;have hx2:=((HX.out.below hb2).alloc (.cells #[.slice none 0 0] 29)).alloc (.cells #[.slice none 0 0] 32);have x0:=hx2.cell 0 (v:=.int .i64 T) rfl;have x1:=hx2.cell 1 (v:=.int .i64 V) rfl;have x2:=hx2.cell 2 (v:=.int .i64 S) rfl;have x3:=hx2.cell 3 (v:=.slice a l.length cap) rfl)
  | (refine⟨trivial,?_⟩;gi_at_call 25;refine(callsIn_wide.2 (Le.out _)).mono ?_;rintro e' w3 ⟨rfl,rfl⟩))
 obtain⟨W2,hW2⟩:∃ W2,W2=((w2.alloc (.cells #[.slice none 0 0] 29)).alloc (.cells #[.slice none 0 0] 32)).alloc (.cells #[.int .i64 T,.int .i64 V,.int .i64 S,.slice a l.length cap] 24):=⟨_,rfl⟩
 have hB2:Below w2.heap.size w2 W2:=by rw[hW2];exact ah (ah (ah (af _) _) _) _
 have hBw2:Below w.heap.size w w2:=ag HB1.out hb2
 have hBw:Below w.heap.size w W2:=ag hBw2 hB2
 have hsz:W2.heap.size=w2.heap.size+3:=by rw[hW2,World.size_alloc,World.size_alloc,World.size_alloc]
 have YW:aA W2 w2.heap.size #[.slice none 0 0] 29:=by rw[hW2];exact((aA.new _ _ _).alloc _).alloc _
 have bx7:aA W2 (w2.heap.size+1) #[.slice none 0 0] 32:=by rw[hW2];exact(aA.new' _ _ _ (World.size_alloc _ _).symm).alloc _
 have YV:aA W2 (w2.heap.size+1+1) #[.int .i64 T,.int .i64 V,.int .i64 S,.slice a l.length cap] 24:=by rw[hW2];exact aA.new' _ _ _ (by rw[World.size_alloc,World.size_alloc])
 have bx1:aA W2 w.heap.size #[.int .i64 T,.int .i64 V,.int .i64 S,.slice a l.length cap] 24:=by rw[hW2];exact hx2.alloc _
 have V7:=HE.out.below hBw
 have NK:=G7 HE.out
 have hle2:w.heap.size < w2.heap.size:=Nat.lt_of_lt_of_le HX.out.lt hb2.size
 rw[←hW2]
 have HR:=hid (wX 2 w.heap.size (by omega) (w2.heap.size+1+1) T V S a l cap HL.out W2 hBw.size (YV.cell 3 rfl) V7 NK)
 have jM:=hid hBw
 have vK:=hid (And.intro hsz hle2)
 have UI:=hid NK
 obtain⟨i3,hi3,hy0,hy1,hy2⟩:=info_parts IQ
 obtain⟨i9,hi9,hz0,hz1,hz2⟩:=info_parts IV
 obtain⟨iP,hiP,hp0,hp1,hp2⟩:=info_parts Ed
 clear V7 NK hB2 hBw2 hBw x0 x1 x2 x3 hx2 hW2 hle2 hsz HC Le hb2
 apply lW (encs:=fun k=>#[.int .i64 (k:Int),.int .i64 (mD l k)]) (Kp:=qC w.heap.size) (N:=l.length) (w0:=W2) rfl (by omega) (gf:=64) (lb:=#[.pointer (some ⟨w2.heap.size+1+1,0,none⟩)]) rfl trivial (enters_of Tryd.func64 (by kernel_rfl) rfl) HR.out yP (yQ jM.out.size) (Below.refl _ _) (fun _=>rfl)
  (fun k W=>OfI T V S a l cap w w2.heap.size (az (l.take k)) W)
  (by
   rintro k A B row ⟨⟨vo,vw,H,h1,h2,h3⟩,h4,h5⟩ hg hr
   have hr':∀ r,row=some r→∃ o:Obj,A.heap[r]? =some o∧o.isCells=false:=fun r e=>(hr r e).2
   have kb:∀ {b:Nat} {cs:Array Value} {t:TypeId},aA A b cs t→aA B b cs t:=by
    intro b cs t hb
    refine hb.grown hg (fun e=>?_)
    obtain⟨o,ho,hc⟩:=hr' b e.symm
    unfold aA at hb
    rw[hb]at ho;cases ho;cases hc
   exact⟨⟨vo,vw,H,kb h1,kb h2,h3.mJ hg hr'⟩,kb h4,(ownFrom_below (β:=Unit) (Nat.le_refl _) jM.out.size) () A B row h5 hg hr⟩)
  ⟨⟨_,_,_,YW,bx7,bJ.new _ _⟩,bx1,jM.out⟩
 case hassign=>
  intro lp k W K hK
  gi_wp2
  exact hK
 case hbody=>
  rintro lp k W ⟨⟨vo,vw,H,h6,h7,hh⟩,h1,hB⟩ hk
  obtain⟨b,o,rfl,hcell⟩:=HE.out.2 (by intro h;rw[h]at hk;simp at hk)
  have hbn:=UI.out b o rfl (by intro h;rw[h]at hk;simp at hk)
  obtain⟨r,r',hr,hs,hr'⟩:=HH.out.step hk
  have hI:=hr.hi
  rw[show((l.take k).length:Int)=k by rw[List.length_take,Nat.min_eq_left (Nat.le_of_lt hk)]]at hI
  have hmid:=yS hr.wf hI hs
  have hmo:=VO hr.wf hI hs
  have hkd:1≤l[k].kind∧l[k].kind≤13:=(pI hr.wf hs).choose_spec.2.2.2.2.1
  have Nu:∀ q∈(az (l.take k)).out,q.reads.length≤k∧q.writes.length≤k:=by
   have:=um (l.take k) nJ 0 0 (fun q hq=>absurd hq (List.not_mem_nil))
   rw[List.length_take,Nat.min_eq_left (Nat.le_of_lt hk),Nat.zero_add]at this
   exact this
  have hwf:=hr.wf
  have hof:=rE hk
  have hst:=uo hk
  have hole:(az (l.take k)).out.length≤k:=by
   have:=uZ (l.take k) nJ 0
   rw[List.length_take,Nat.min_eq_left (Nat.le_of_lt hk)]at this
   show(gZ nJ 0 (l.take k)).out.length≤k
   have h0:nJ.out.length=0:=rfl
   omega
  rw[hst]
  obtain⟨h,hh0⟩:∃ h,h=az (l.take k):=⟨_,rfl⟩
  rw[←hh0]at hh hof hst hole hmid hmo Nu⊢
  rcases iG:l[k]with⟨kind,th,tx,at_,v,x,why⟩
  have e0:=(hB.cell (p:=⟨b,o+k*7+0,none⟩) hbn).trans (hcell k hk 0 (.int .u8 kind) (by rw[iG];rfl))
  have e1:=(hB.cell (p:=⟨b,o+k*7+1,none⟩) hbn).trans (hcell k hk 1 (.int .i64 th) (by rw[iG];rfl))
  have e2:=(hB.cell (p:=⟨b,o+k*7+2,none⟩) hbn).trans (hcell k hk 2 (.int .i64 tx) (by rw[iG];rfl))
  have e3:=(hB.cell (p:=⟨b,o+k*7+3,none⟩) hbn).trans (hcell k hk 3 (.int .i64 at_) (by rw[iG];rfl))
  have e4:=(hB.cell (p:=⟨b,o+k*7+4,none⟩) hbn).trans (hcell k hk 4 (.int .i64 v) (by rw[iG];rfl))
  have e5:=(hB.cell (p:=⟨b,o+k*7+5,none⟩) hbn).trans (hcell k hk 5 (.int .i64 x) (by rw[iG];rfl))
  have e6:=(hB.cell (p:=⟨b,o+k*7+6,none⟩) hbn).trans (hcell k hk 6 (.int .u8 why) (by rw[iG];rfl))
  rw[Nat.add_zero]at e0
  have x3:=h1.cell 3 (v:=.slice (some ⟨b,o,none⟩) l.length cap) rfl
  rw[iG]at hof hmid hmo hst hkd
  dsimp only at hmid hmo hkd
  have hkL:k < 1048576:=by have:=HL.out;omega
  have c6:=h6.cell 0 (v:=vo) rfl
  have c7:=h7.cell 0 (v:=vw) rfl
  have z6:=h6.free 0
  have l6:=lt_of_cell c6
  have l7:=lt_of_cell c7
  have l1:=lt_of_cell x3
  have z7:=h7.free 0
  have hle:=Nat.le_of_lt vK.out.2
  have hsW:=hB.size
  have XO:=hid h6
  have XN:=hid h7
  have XP:=hid h1
  have EW:=hid hB
  have O0:=hid hh
  have j2:(0:Int)≤(k:Int):=by omega
  have j4:decide (k < l.length)=true:=by rw[decide_eq_true_iff];omega
  have HHK:=hid hk
  clear hcell iG hst h6 h7 h1 hB hh hr hr' hs hI hwf hh0
  by_cases k1:kind=1
  ·subst k1
   have xu:mD l k=(h.out.length:Nat):=by rw[hof];unfold Fb;rw[if_pos rfl]
   rw[xu]
   obtain⟨E,hE0⟩:∃ E,E=Obj.cells #[.int .u8 1,.int .i64 th,.int .i64 tx,.int .i64 at_,.int .i64 v,.int .i64 x,.int .u8 why] 49:=⟨_,rfl⟩
   obtain⟨X,hX0⟩:∃ X,X=Obj.cells (kP ⟨th,tx,(k:Int),-1,v,0,false,[],[]⟩ (.slice none 0 0) (.slice none 0 0)).toArray 58:=⟨_,rfl⟩
   have hcf:∀ j u,(kP ⟨th,tx,(k:Int),-1,v,0,false,[],[]⟩ (.slice none 0 0) (.slice none 0 0))[j]? =some u→((W.alloc E).alloc X).cell? ((⟨W.heap.size+1,0,none⟩:Addr).add j)=some u:=by
    intro j u hu
    have:=lS (W.alloc E) (kP ⟨th,tx,(k:Int),-1,v,0,false,[],[]⟩ (.slice none 0 0) (.slice none 0 0)).toArray 58 j u hu
    rw[World.size_alloc,←hX0]at this
    exact this
   have ho2:=((O0.out.out).alloc E).alloc X
   have hw2:=((O0.out.own).alloc E).alloc X
   have q6:=(XO.out.alloc E).alloc X
   have q7:=(XN.out.alloc E).alloc X
   have q1:=(XP.out.alloc E).alloc X
   have h63:h.out.length+1≤maxLen:=by unfold maxLen;omega
   have hby:(h.out.length+1)*104≤140737488355328:=by omega
   have Yz:(h.out.length+1)*8≤140737488355328:=by omega
   have hbs:w.heap.size≤((W.alloc E).alloc X).heap.size:=by rw[World.size_alloc,World.size_alloc];omega
   have hko:=((KO.refl w.heap.size W).alloc hsW E).alloc hsW X
   rw[hE0,hX0]at hcf ho2 hw2 q6 q7 q1 hbs hko
   gi_wp2_with (first
    | (gi_at_builtin;refine wpListIn_append_own _ rfl _ _ 29 rfl w.heap.size 58 i9 _ 9 104 Tryd.underlying29 hi9 hz0 hz1 hz2 rfl (by decide) _ _ _ rfl ho2 ⟨W.heap.size+1,0,none⟩ 1 1 _ rfl rfl hcf (by simp[kP,Value.oneCell']) h63 hby hbs ?_;intro E8 w4 VL hg4 _;obtain⟨go,co,rfl⟩:=ownsRow_succ VL;have Q5:=q6.grow ho2 hg4 (by decide);have Vo:=q7.grow ho2 hg4 (by decide);have q1':=q1.grow ho2 hg4 (by decide);have hw4:=qY hw2 ho2 hg4 (by decide);have VM:=hko.grow hsW ho2 hg4;clear q6 q7 q1 hko;have c6':=Q5.cell 0 (v:=vo) rfl;have c7':=Vo.cell 0 (v:=vw) rfl;have z6':=Q5.free 0;have z7':=Vo.free 0;have Yi:(w4.setCell ⟨w2.heap.size,0,none⟩ (.slice (some ⟨go,0,none⟩) (h.out.length+1) co)).heap.size=w4.heap.size:=(by simp[World.setCell]);have VR:=lS (w4.setCell ⟨w2.heap.size,0,none⟩ (.slice (some ⟨go,0,none⟩) (h.out.length+1) co)) #[.int .i64 0] 3;rw[Yi]at VR;have J8:=(xJ hw4 Q5 (by decide) 0 (.slice (some ⟨go,0,none⟩) (h.out.length+1) co)).alloc (.cells #[.int .i64 0] 3);have Rn:=(VM.set (b:=w2.heap.size) (o:=0) hle (.slice (some ⟨go,0,none⟩) (h.out.length+1) co)).alloc hsW (.cells #[.int .i64 0] 3);have YA:=Nat.le_trans hsW Rn.2.size;have Je:=hid (And.intro VL (And.intro hg4 (And.intro Q5 (And.intro Vo (And.intro q1' ho2)))));clear VL hg4 Q5 Vo q1' hw4 VM ho2 hcf hw2 hbs)
    | (gi_at_builtin;refine wpListIn_append_own _ rfl _ _ 32 rfl w.heap.size 3 i3 _ 1 8 Tryd.underlying32 hi3 hy0 hy1 hy2 rfl (by decide) _ _ _ rfl J8 ⟨w4.heap.size,0,none⟩ 1 1 [.int .i64 0] rfl rfl VR (by simp[Value.oneCell']) h63 Yz YA ?_;intro Xn w5 hw5 hg5 _;obtain⟨gw,cw,rfl⟩:=ownsRow_succ hw5;have Vm:=(((Je.out.2.2.2.1).aC ⟨w2.heap.size,0,none⟩ (.slice (some ⟨go,0,none⟩) (h.out.length+1) co) (by simp)).alloc (.cells #[.int .i64 0] 3)).grow J8 hg5 (by decide);have c7f:=Vm.cell 0 (v:=vw) rfl;have z7f:=Vm.free 0))
   have lY:=(Rn.grow hsW J8 hg5).set (b:=w2.heap.size+1) (o:=0) (by omega) (.slice (some ⟨gw,0,none⟩) (h.out.length+1) cw)
   obtain⟨VL,hg4,Q5,Vo,q1',ho2⟩:=Je.out
   have t6:=(((Q5.set 0 (.slice (some ⟨go,0,none⟩) (h.out.length+1) co)).alloc (.cells #[.int .i64 0] 3)).grow J8 hg5 (by decide)).aC ⟨w2.heap.size+1,0,none⟩ (.slice (some ⟨gw,0,none⟩) (h.out.length+1) cw) (by simp)
   have t7:=Vm.set 0 (.slice (some ⟨gw,0,none⟩) (h.out.length+1) cw)
   have t1:=(((q1'.aC ⟨w2.heap.size,0,none⟩ (.slice (some ⟨go,0,none⟩) (h.out.length+1) co) (by have:=vK.out;simp;omega)).alloc (.cells #[.int .i64 0] 3)).grow J8 hg5 (by decide)).aC ⟨w2.heap.size+1,0,none⟩ (.slice (some ⟨gw,0,none⟩) (h.out.length+1) cw) (by have:=vK.out;simp;omega)
   have toF:∀ {e size:Nat} {v:Value} {n:Nat} {xs:List Value},3≠e→29≠e→32≠e→w4.ownsRow w.heap.size e size v n xs→(w5.setCell ⟨w2.heap.size+1,0,none⟩ (.slice (some ⟨gw,0,none⟩) (h.out.length+1) cw)).ownsRow w.heap.size e size v n xs:=fun n1 n2 n3 hr=>xJ (qY ((xJ hr Q5 n2 0 _).alloc _) J8 hg5 (fun e=>n1 e.symm)) Vm n3 0 _
   refine⟨lY.1.from _,⟨lY.2,lY.1.walks⟩,⟨.slice (some ⟨go,0,none⟩) (h.out.length+1) co,.slice (some ⟨gw,0,none⟩) (h.out.length+1) cw,_,t6,t7,bJ.begun O0.out rfl (toF (by decide) (by decide) (by decide) VL) (xJ hw5 Vm (by decide) 0 _) (fun v n xs hr=>toF (by decide) (by decide) (by decide) (qY ((hr.alloc _).alloc _) ho2 hg4 (by decide)))⟩,t1,EW.out.trans lY.2⟩
  ·by_cases k13:kind=13
   ·subst k13
    have xu:mD l k=-1:=by rw[hof];rfl
    rw[xu]
    obtain⟨E,hE0⟩:∃ E,E=Obj.cells #[.int .u8 13,.int .i64 th,.int .i64 tx,.int .i64 at_,.int .i64 v,.int .i64 x,.int .u8 why] 49:=⟨_,rfl⟩
    have hko:=(KO.refl w.heap.size W).alloc hsW E
    have t6:=XO.out.alloc E
    have t7:=XN.out.alloc E
    have t1:=XP.out.alloc E
    have OT:=O0.out.calm (World.grownBy_alloc W E none)
    rw[hE0]at hko t6 t7 t1 OT
    have HF:=hid (And.intro hko (And.intro t6 (And.intro t7 (And.intro t1 OT))))
    clear hko t6 t7 t1 OT hE0
    gi_wp2
    obtain⟨hko,t6,t7,t1,OT⟩:=HF.out
    exact⟨hko.1.from _,⟨hko.2,hko.1.walks⟩,⟨_,_,_,t6,t7,OT⟩,t1,EW.out.trans hko.2⟩
   ·obtain⟨at0,oo,hk1,hk2,Yw,Yv,hk7⟩:=hmid k1 k13
    obtain⟨oo',VN,ho0,aal⟩:=hmo k1 k13
    rw[hk2]at VN
    cases VN
    have VK:mD l k=((h.last th:Nat):Int):=by rw[hof];unfold Fb;rw[if_neg k1,if_neg k13]
    have hSM:dS h (k:Int) ⟨kind,th,tx,at_,v,x,why⟩=⟨h.last,h.out.set (h.last th) (bK at0 oo ⟨kind,th,tx,at_,v,x,why⟩ (k:Int)),h.owned.set (h.last th) (dY oo ⟨kind,th,tx,at_,v,x,why⟩)⟩:=by
     unfold dS;rw[if_neg k1,if_neg k13,dD hk1,dD hk2]
    rw[hSM,VK]
    obtain⟨K,hK0⟩:∃ K,K=h.last th:=⟨_,rfl⟩
    rw[←hK0]at hk1 hk2⊢
    have vJ:K < h.out.length:=(List.getElem?_eq_some_iff.1 hk1).1
    have nS:h.out.getD K aH.zero=at0:=dD hk1
    have hKk:K < k:=by omega
    obtain⟨go,co,rfl,hgb,hgl⟩:=wC O0.out.out (by omega)
    obtain⟨gw,cw,rfl,hwb,hwl⟩:=wC O0.out.own (by omega)
    have hlf:=Nu at0 (List.mem_of_getElem? hk1)
    have Kq:(rC at0 false).length≤k:=hlf.1
    have Ns:(rC at0 true).length≤k:=hlf.2
    have i1:(0:Int)≤(K:Int):=by omega
    have i2:(K:Int) < (h.out.length:Int):=by omega
    have hne:go≠gw:=by
     intro e
     subst e
     exact(jy O0.out.out O0.out.own (by decide)).elim (fun x=>by simp[Value.ownBlock]at x) (fun x=>x (by simp[Value.ownBlock]))
    have g1:(kind==1)=false:=beq_eq_false_iff_ne.2 k1
    clear hmid hmo hof VK hSM hK0 Yw Yv hk7 Nu hlf
    gi_upto_if 32 with fail
    obtain⟨W1,hW1⟩:∃ W1,W1=W.alloc (.cells #[.int .u8 kind,.int .i64 th,.int .i64 tx,.int .i64 at_,.int .i64 v,.int .i64 x,.int .u8 why] 49):=⟨_,rfl⟩
    rw[←hW1]
    have hko:KO w.heap.size W W1:=by rw[hW1];exact(KO.refl w.heap.size W).alloc hsW _
    have t6:aA W1 w2.heap.size #[.slice (some ⟨go,0,none⟩) h.out.length co] 29:=by rw[hW1];exact XO.out.alloc _
    have t7:aA W1 (w2.heap.size+1) #[.slice (some ⟨gw,0,none⟩) h.out.length cw] 32:=by rw[hW1];exact XN.out.alloc _
    have t1:aA W1 w.heap.size #[.int .i64 T,.int .i64 V,.int .i64 S,.slice (some ⟨b,o,none⟩) l.length cap] 24:=by rw[hW1];exact XP.out.alloc _
    have hh1:bJ w.heap.size W1 (.slice (some ⟨go,0,none⟩) h.out.length co) (.slice (some ⟨gw,0,none⟩) h.out.length cw) h H:=by rw[hW1];exact O0.out.calm (World.grownBy_alloc W _ none)
    have bE:aA W1 W.heap.size #[.int .u8 kind,.int .i64 th,.int .i64 tx,.int .i64 at_,.int .i64 v,.int .i64 x,.int .u8 why] 49:=by rw[hW1];exact aA.new _ _ _
    have hlW:W.heap.size < W1.heap.size:=by rw[hW1,World.size_alloc];omega
    clear hW1 c6 c7 z6 z7 e0 e1 e2 e3 e4 e5 e6 x3 XO XN XP
    have c6:=t6.cell 0 (v:=.slice (some ⟨go,0,none⟩) h.out.length co) rfl
    have c7:=t7.cell 0 (v:=.slice (some ⟨gw,0,none⟩) h.out.length cw) rfl
    have z6:=t6.free 0
    have z7:=t7.free 0
    have f0:=bE.cell 0 (v:=.int .u8 kind) rfl
    have f3:=bE.cell 3 (v:=.int .i64 at_) rfl
    have f4:=bE.cell 4 (v:=.int .i64 v) rfl
    have f5:=bE.cell 5 (v:=.int .i64 x) rfl
    have dO:=(hh1.own.cellAt K (by omega))
    rw[List.getElem?_map,hk2,Option.map_some]at dO
    have zW:=hh1.own.frozenAt K
    have z3:=hh1.out.frozenAt (K*9+3)
    have z5:=hh1.out.frozenAt (K*9+5)
    have Z9:=hh1.out.frozenAt (K*9+6)
    have a3:W1.cell? ⟨go,K*9+3,none⟩=some (.int .i64 at0.dI):=((hh1.out.cellAt (K*9+3) (by omega)).trans (fO (j:=3) vJ (by decide))).trans (by rw[nS];rfl)
    have a5:W1.cell? ⟨go,K*9+5,none⟩=some (.int .i64 at0.wv):=((hh1.out.cellAt (K*9+5) (by omega)).trans (fO (j:=5) vJ (by decide))).trans (by rw[nS];rfl)
    have a6:W1.cell? ⟨go,K*9+6,none⟩=some (.bool at0.com):=((hh1.out.cellAt (K*9+6) (by omega)).trans (fO (j:=6) vJ (by decide))).trans (by rw[nS];rfl)
    have n7:¬ (w2.heap.size+1=gw):=fun e=>bG hh1.own t7 (by decide) (by simp[Value.ownBlock,e])
    have n7':¬ (gw=w2.heap.size+1):=fun e=>n7 e.symm
    have n6:¬ (w2.heap.size=go):=fun e=>bG hh1.out t6 (by decide) (by simp[Value.ownBlock,e])
    have n6':¬ (go=w2.heap.size):=fun e=>n6 e.symm
    have hne':¬ (gw=go):=fun e=>hne e.symm
    have aai:w.heap.size≤W1.heap.size:=Nat.le_trans hsW hko.2.size
    have hkk:kind=2∨kind=3∨kind=4∨kind=5∨kind=6∨kind=7∨kind=8∨kind=9∨kind=10∨kind=11∨kind=12:=by omega
    clear k1 k13 g1 hkd
    rcases hkk with kx | kx | kx | kx | kx | kx | kx | kx | kx | kx | kx
    ·subst kx
     have hTA:bK at0 oo ⟨2,th,tx,at_,v,x,why⟩ (k:Int)=at0:=rfl
     have xy:dY oo ⟨2,th,tx,at_,v,x,why⟩=oo:=rfl
     have HF:=hid (And.intro hko (And.intro t6 (And.intro t7 (And.intro t1 hh1))))
     clear hko t6 t7 t1 hh1
     gi_wp2
     obtain⟨hko,t6,t7,t1,hh1⟩:=HF.out
     exact⟨(hko).1.from _,⟨(hko).2,(hko).1.walks⟩,⟨.slice (some ⟨go,0,none⟩) h.out.length co,.slice (some ⟨gw,0,none⟩) h.out.length cw,H,t6,t7,hh1.as (by first | exact((bg hk1).symm.trans (congrArg (h.out.set K) hTA.symm)) | exact(bg hk1).symm) (by first | exact((bg hk2).symm.trans (congrArg (h.owned.set K) xy.symm)) | exact(bg hk2).symm)⟩,t1,EW.out.trans (hko).2⟩
    ·subst kx
     have hTA:bK at0 oo ⟨3,th,tx,at_,v,x,why⟩ (k:Int)={ at0 with reads:=at0.reads++[(at_,x)] }:=rfl
     have xy:dY oo ⟨3,th,tx,at_,v,x,why⟩=oo:=rfl
     have hrow:=(hh1.lQ.rows K false vJ)
     rw[nS]at hrow
     have nN:=hrow.alloc (.cells #[.int .i64 at_,.int .i64 x] 61)
     have hfr:=lS W1.drew #[.int .i64 at_,.int .i64 x] 61
     have hfs:W1.drew.heap.size=W1.heap.size:=rfl
     rw[hfs]at hfr
     have hpl:(rC at0 false).length≤k:=Kq
     obtain⟨v',w1,hrun,hown',hgrow,hnil,hblk⟩:=run_append_own_at (P:=Tryd.prog) (W1.drew.alloc (.cells #[.int .i64 at_,.int .i64 x] 61)) w.heap.size 56 56 61 iP _ 2 16 Tryd.underlying56 hiP hp0 hp1 hp2 rfl (by decide) (H K false) _ _ nN ⟨W1.heap.size,0,none⟩ 1 1 [.int .i64 at_,.int .i64 x] rfl hfr (by simp[Value.oneCell']) (by unfold maxLen;omega) (by omega) (by rw[World.size_alloc,hfs];omega)
     obtain⟨gp,cp,rfl⟩:=ownsRow_succ hown'
     obtain⟨hp1',hp2'⟩:=bJ.pair (k:=K) (b:=false) (p:=(at_,x)) (a':={ at0 with reads:=at0.reads++[(at_,x)] }) ((hh1.lQ).calm (World.grownBy_alloc _ (.cells #[.int .i64 at_,.int .i64 x] 61) none)) vJ (by rw[nS];exact hown') (by exact hgrow) (by rcases hblk with e | e;exact .inl e;exact .inr ⟨_,e,Nat.le_refl _⟩) (by rw[nS];rfl) (by rw[nS];rfl) (by rw[nS];rfl)
     have Nw:=((hko.drew.alloc hsW (.cells #[.int .i64 at_,.int .i64 x] 61)).grow hsW nN hgrow)
     have lY:=Nw.set (b:=go) (o:=K*9+7) hgb (.slice (some ⟨gp,0,none⟩) ((rC at0 false).length+1) cp)
     have wG:=qY ((hh1.lQ.out).alloc (.cells #[.int .i64 at_,.int .i64 x] 61)) nN hgrow (by decide)
     have u6:=((t6.drew).alloc (.cells #[.int .i64 at_,.int .i64 x] 61)).grow nN hgrow (by decide)
     have u7:=((t7.drew).alloc (.cells #[.int .i64 at_,.int .i64 x] 61)).grow nN hgrow (by decide)
     have u1:=((t1.drew).alloc (.cells #[.int .i64 at_,.int .i64 x] 61)).grow nN hgrow (by decide)
     have Ag:=u6.grown hp2' (fun e=>bG wG u6 (by decide) e)
     have Af:=u7.grown hp2' (fun e=>bG wG u7 (by decide) e)
     have Ah:=u1.grown hp2' (fun e=>bG wG u1 (by decide) e)
     have zo:=wG.frozenAt (K*9+7)
     have dW:=(wG.cellAt (K*9+7) (by omega)).trans (fO (j:=7) vJ (by decide))
     have HF:=hid (And.intro lY (And.intro Ag (And.intro Af (And.intro Ah hp1'))))
     have YR:=bE.drew.cell 3 (v:=.int .i64 at_) rfl
     have YQ:=bE.drew.cell 5 (v:=.int .i64 x) rfl
     have NT:=(bE.drew.alloc (.cells #[.int .i64 at_,.int .i64 x] 61)).cell 3 (v:=.int .i64 at_) rfl
     have NS:=(bE.drew.alloc (.cells #[.int .i64 at_,.int .i64 x] 61)).cell 5 (v:=.int .i64 x) rfl
     have dH:=((hh1.lQ).out.cellAt (K*9+7) (by omega)).trans (fO (j:=7) vJ (by decide))
     have We:=(((hh1.lQ).out.alloc (.cells #[.int .i64 at_,.int .i64 x] 61)).cellAt (K*9+7) (by omega)).trans (fO (j:=7) vJ (by decide))
     obtain⟨Wd,hWd⟩:∃ Wd,Wd=W1.drew:=⟨_,rfl⟩
     obtain⟨Wt,Ll⟩:∃ Wt,Wt=Wd.alloc (.cells #[.int .i64 at_,.int .i64 x] 61):=⟨_,rfl⟩
     have YG:Wd.heap.size=W1.heap.size:=by rw[hWd];rfl
     rw[←hWd]at hrun YR YQ dH NT NS We
     rw[←Ll]at hrun NT NS We
     have Y8:=hid hWd
     have Wq:=hid Ll
     have Ik:=hid hrun
     clear hrun hko t6 t7 t1 hh1 hrow nN hfr hfs hown' hgrow hnil hblk hp1' hp2' Nw lY wG u6 u7 u1 Ag Af Ah hWd Ll bE
     gi_wp2
     clear c6 c7 z6 z7
     apply mZ [.pointer (some ⟨go,K*9,none⟩),.pointer (some ⟨go,K*9,none⟩),.pointer (some ⟨go,K*9,none⟩),.pointer (some ⟨go,K*9+7,none⟩),H K false,.pointer (some ⟨W.heap.size,3,none⟩),.int .i64 at_,.pointer (some ⟨W.heap.size,5,none⟩),.int .i64 x,.agg #[.int .i64 at_,.int .i64 x],.slice (some ⟨W1.heap.size,0,none⟩) 1 1,.slice (some ⟨gp,0,none⟩) ((rC at0 false).length+1) cp,.pointer (some ⟨go,K*9,none⟩),.pointer (some ⟨go,K*9+7,none⟩),undef] (lF _ 10 11 14 Wd Wt w1 (w1.setCell ⟨go,K*9+7,none⟩ (.slice (some ⟨gp,0,none⟩) ((rC at0 false).length+1) cp)))
     focus (simp[ay,aB,Act.put,List.getD];rfl)
     case hm=>kernel_rfl
     case hnd=>kernel_rfl
     case hq=>rintro⟨ax,wx,hx⟩;exact hx
     case hd=>kernel_rfl
     case hb=>kernel_rfl
     case kJ=>kernel_rfl
     case hsel=>kernel_rfl
     case iR=>kernel_rfl
     case hgv=>kernel_rfl
     case hsz=>kernel_rfl
     case jf=>(intro l1 l2 w' hx hG;exact hG.ext (by kernel_rfl) (of_decide_eq_true (by kernel_rfl)) (of_decide_eq_true (by kernel_rfl)) (of_decide_eq_true (by kernel_rfl)) hx)
     case h0=>(rw[←Y8.out];exact lF.start)
     case hstep=>
      refine⟨?_,?_,?_,?_,?_,?_,?_,?_,?_,?_,?_,?_,?_,?_,?_,trivial⟩
      ·intro l' w' hl hdp hG
       rw[if_pos (by kernel_rfl)]
       intro K' Qp hK
       have HG:=hid (hG.other (i:=0) rfl hdp (by decide) (by decide) (by decide))
       clear hG hl hdp
       go_simp
       exact hK _ HG.out
      ·intro l' w' hl hdp hG
       rw[if_pos (by kernel_rfl)]
       intro K' Qp hK
       have HG:=hid (hG.other (i:=1) rfl hdp (by decide) (by decide) (by decide))
       clear hG hl hdp
       go_simp
       exact hK _ HG.out
      ·intro l' w' hl hdp hG
       rw[if_pos (by kernel_rfl)]
       intro K' Qp hK
       have HG:=hid (hG.other (i:=2) rfl hdp (by decide) (by decide) (by decide))
       clear hG hl hdp
       go_simp
       exact hK _ HG.out
      ·intro l' w' hl hdp hG
       rw[if_pos (by kernel_rfl)]
       intro K' Qp hK
       have HG:=hid (hG.other (i:=3) rfl hdp (by decide) (by decide) (by decide))
       clear hG hl hdp
       go_simp
       exact hK _ HG.out
      ·intro l' w' hl hdp hG
       rw[if_pos (by kernel_rfl)]
       intro K' Qp hK
       have rP:l' 11=false:=by
        cases h11:l' 11 with
        | false=>rfl
        | true=>rw[hG.clo 11 _ 4 rfl h11 rfl]at hl;cases hl
       have HG:=hid (hG.other (i:=4) rfl hdp (by decide) (by decide) (by decide))
       have hw:w'=Wd∨w'=Wt:=by
        cases h10:l' 10 with
        | false=>exact .inl (hG.s0 h10)
        | true=>exact .inr (hG.s1 h10 rP)
       clear hG hl hdp rP
       rcases hw with rfl | rfl
       ·go_simp
        exact hK _ HG.out
       ·go_simp
        exact hK _ HG.out
      ·intro l' w' hl hdp hG
       rw[if_pos (by kernel_rfl)]
       intro K' Qp hK
       have HG:=hid (hG.other (i:=5) rfl hdp (by decide) (by decide) (by decide))
       clear hG hl hdp
       go_simp
       exact hK _ HG.out
      ·intro l' w' hl hdp hG
       rw[if_pos (by kernel_rfl)]
       intro K' Qp hK
       have rP:l' 11=false:=by
        cases h11:l' 11 with
        | false=>rfl
        | true=>rw[hG.clo 9 _ 6 rfl (hG.clo 10 _ 9 rfl (hG.clo 11 _ 10 rfl h11 rfl) rfl) rfl]at hl;cases hl
       have HG:=hid (hG.other (i:=6) rfl hdp (by decide) (by decide) (by decide))
       have hw:w'=Wd∨w'=Wt:=by
        cases h10:l' 10 with
        | false=>exact .inl (hG.s0 h10)
        | true=>exact .inr (hG.s1 h10 rP)
       clear hG hl hdp rP
       rcases hw with rfl | rfl
       ·go_simp
        exact hK _ HG.out
       ·go_simp
        exact hK _ HG.out
      ·intro l' w' hl hdp hG
       rw[if_pos (by kernel_rfl)]
       intro K' Qp hK
       have HG:=hid (hG.other (i:=7) rfl hdp (by decide) (by decide) (by decide))
       clear hG hl hdp
       go_simp
       exact hK _ HG.out
      ·intro l' w' hl hdp hG
       rw[if_pos (by kernel_rfl)]
       intro K' Qp hK
       have rP:l' 11=false:=by
        cases h11:l' 11 with
        | false=>rfl
        | true=>rw[hG.clo 9 _ 8 rfl (hG.clo 10 _ 9 rfl (hG.clo 11 _ 10 rfl h11 rfl) rfl) rfl]at hl;cases hl
       have HG:=hid (hG.other (i:=8) rfl hdp (by decide) (by decide) (by decide))
       have hw:w'=Wd∨w'=Wt:=by
        cases h10:l' 10 with
        | false=>exact .inl (hG.s0 h10)
        | true=>exact .inr (hG.s1 h10 rP)
       clear hG hl hdp rP
       rcases hw with rfl | rfl
       ·go_simp
        exact hK _ HG.out
       ·go_simp
        exact hK _ HG.out
      ·intro l' w' hl hdp hG
       rw[if_pos (by kernel_rfl)]
       intro K' Qp hK
       have HG:=hid (hG.other (i:=9) rfl hdp (by decide) (by decide) (by decide))
       clear hG hl hdp
       go_simp
       exact hK _ HG.out
      ·intro l' w' hl hdp hG
       rw[if_pos (by kernel_rfl)]
       intro K' Qp hK
       obtain⟨rfl,hG'⟩:=hG.first rfl hdp hl (fun h11=>hG.clo 11 _ 10 rfl h11 rfl) (fun OV=>hG.clo 14 _ 11 rfl OV rfl) (by decide) (by decide)
       have HG:=hid hG'
       clear hG hl hdp hG'
       go_simp
       rw[←Wq.out]
       exact hK _ HG.out
      ·intro l' w' hl hdp hG
       rw[if_pos (by kernel_rfl)]
       intro K' Qp hK
       obtain⟨rfl,hG'⟩:=hG.second rfl hdp hl (hdp 10 rfl) (fun OV=>hG.clo 14 _ 11 rfl OV rfl) (by decide) (by decide)
       have HG:=hid hG'
       clear hG hl hdp hG'
       refine aO.wp (bW (s:=.tmp 60) (x:=.tmp 66) (t:=56) rfl (vs:=H K false) (vx:=.slice (some ⟨W1.heap.size,0,none⟩) 1 1) rfl rfl Ik.out (hK _ HG.out))
      ·intro l' w' hl hdp hG
       rw[if_pos (by kernel_rfl)]
       intro K' Qp hK
       have HG:=hid (hG.other (i:=12) rfl hdp (by decide) (by decide) (by decide))
       clear hG hl hdp
       go_simp
       exact hK _ HG.out
      ·intro l' w' hl hdp hG
       rw[if_pos (by kernel_rfl)]
       intro K' Qp hK
       have HG:=hid (hG.other (i:=13) rfl hdp (by decide) (by decide) (by decide))
       clear hG hl hdp
       go_simp
       exact hK _ HG.out
      ·intro l' w' hl hdp hG
       rw[if_pos (by kernel_rfl)]
       intro K' Qp hK
       obtain⟨rfl,hG'⟩:=hG.third rfl hdp hl (hdp 11 rfl) (hG.clo 11 _ 10 rfl (hdp 11 rfl) rfl) (by decide) (by decide)
       have HG:=hid hG'
       clear hG hl hdp hG'
       go_simp
       exact hK _ HG.out
     case hdone=>
      intro w' hG
      obtain rfl:=hG.done
      clear hG
      gi_wp2
      obtain⟨hko,t6,t7,t1,hh2⟩:=HF.out
      exact⟨(hko).1.from _,⟨(hko).2,(hko).1.walks⟩,⟨.slice (some ⟨go,0,none⟩) h.out.length co,.slice (some ⟨gw,0,none⟩) h.out.length cw,_,t6,t7,hh2.as (by first | exact(congrArg (h.out.set K) hTA.symm) | exact rfl) (by first | exact((bg hk2).symm.trans (congrArg (h.owned.set K) xy.symm)) | exact(bg hk2).symm)⟩,t1,EW.out.trans (hko).2⟩
    ·subst kx
     have hTA:bK at0 oo ⟨4,th,tx,at_,v,x,why⟩ (k:Int)=at0:=rfl
     have xy:dY oo ⟨4,th,tx,at_,v,x,why⟩=oo+1:=rfl
     have hc2:=hh1.count (k:=K) (oo+1)
     have xw:=hko.set (b:=gw) (o:=K) hwb (.int .i64 (oo+1))
     have t62:=t6.grown hc2.2 (fun e=>bG hh1.own t6 (by decide) e)
     have t72:=t7.grown hc2.2 (fun e=>bG hh1.own t7 (by decide) e)
     have t12:=t1.grown hc2.2 (fun e=>bG hh1.own t1 (by decide) e)
     have wr:IntKind.i64.wrap (oo+1)=oo+1:=IntWalk.i64_in _ (by omega)
     have HF:=hid (And.intro xw (And.intro t62 (And.intro t72 (And.intro t12 hc2.1))))
     clear hko xw t6 t62 t7 t72 t1 t12 hh1 hc2
     gi_wp2
     obtain⟨hko,t6,t7,t1,hh2⟩:=HF.out
     exact⟨(hko).1.from _,⟨(hko).2,(hko).1.walks⟩,⟨.slice (some ⟨go,0,none⟩) h.out.length co,.slice (some ⟨gw,0,none⟩) h.out.length cw,H,t6,t7,hh2.as (by first | exact((bg hk1).symm.trans (congrArg (h.out.set K) hTA.symm)) | exact(bg hk1).symm) (by first | exact(congrArg (h.owned.set K) xy.symm) | exact rfl)⟩,t1,EW.out.trans (hko).2⟩
    ·subst kx
     have hTA:bK at0 oo ⟨5,th,tx,at_,v,x,why⟩ (k:Int)=at0:=rfl
     have xy:dY oo ⟨5,th,tx,at_,v,x,why⟩=oo:=rfl
     have HF:=hid (And.intro hko (And.intro t6 (And.intro t7 (And.intro t1 hh1))))
     clear hko t6 t7 t1 hh1
     gi_wp2
     obtain⟨hko,t6,t7,t1,hh1⟩:=HF.out
     exact⟨(hko).1.from _,⟨(hko).2,(hko).1.walks⟩,⟨.slice (some ⟨go,0,none⟩) h.out.length co,.slice (some ⟨gw,0,none⟩) h.out.length cw,H,t6,t7,hh1.as (by first | exact((bg hk1).symm.trans (congrArg (h.out.set K) hTA.symm)) | exact(bg hk1).symm) (by first | exact((bg hk2).symm.trans (congrArg (h.owned.set K) xy.symm)) | exact(bg hk2).symm)⟩,t1,EW.out.trans (hko).2⟩
    ·subst kx
     have hTA:bK at0 oo ⟨6,th,tx,at_,v,x,why⟩ (k:Int)=at0:=rfl
     have xy:dY oo ⟨6,th,tx,at_,v,x,why⟩=oo:=rfl
     have HF:=hid (And.intro hko (And.intro t6 (And.intro t7 (And.intro t1 hh1))))
     clear hko t6 t7 t1 hh1
     gi_wp2
     obtain⟨hko,t6,t7,t1,hh1⟩:=HF.out
     exact⟨(hko).1.from _,⟨(hko).2,(hko).1.walks⟩,⟨.slice (some ⟨go,0,none⟩) h.out.length co,.slice (some ⟨gw,0,none⟩) h.out.length cw,H,t6,t7,hh1.as (by first | exact((bg hk1).symm.trans (congrArg (h.out.set K) hTA.symm)) | exact(bg hk1).symm) (by first | exact((bg hk2).symm.trans (congrArg (h.owned.set K) xy.symm)) | exact(bg hk2).symm)⟩,t1,EW.out.trans (hko).2⟩
    ·subst kx
     have hTA:bK at0 oo ⟨7,th,tx,at_,v,x,why⟩ (k:Int)={ at0 with com:=true,wv:=v,dI:=if oo=0 then(k:Int)else at0.dI }:=rfl
     have xy:dY oo ⟨7,th,tx,at_,v,x,why⟩=oo:=rfl
     have hf1:=bJ.field (k:=K) (j:=6) (a':={ at0 with com:=true }) (u:=.bool true) hh1.lQ vJ (by decide) (by rw[nS];rfl) (by intro b;rw[nS];cases b <;> rfl)
     have hf2:=bJ.field (h:=⟨h.last,h.out.set K { at0 with com:=true },h.owned⟩) (k:=K) (j:=5) (a':={ at0 with com:=true,wv:=v }) (u:=.int .i64 v) (by have:=hf1.1;rwa [show h.out.length=(h.out.set K { at0 with com:=true }).length by rw[List.length_set]]at this) (by show K < (h.out.set K _).length;rw[List.length_set];exact vJ) (by decide) (by show(kP ((h.out.set K _).getD K aH.zero) _ _).set _ _=_;rw[aQ _ _ _ _ vJ];rfl) (by intro b;show _=rC ((h.out.set K _).getD K aH.zero) b;rw[aQ _ _ _ _ vJ];cases b <;> rfl)
     have hlen2:(h.out.set K { at0 with com:=true }).length=h.out.length:=by rw[List.length_set]
     have NC:=hf2.1
     dsimp only at NC
     rw[hlen2,List.set_set]at NC
     have Nv:=((hko.drew.set (b:=go) (o:=K*9+6) hgb (.bool true)).set (b:=go) (o:=K*9+5) hgb (.int .i64 v))
     have v6:=(t6.drew.grown hf1.2 (fun e=>bG hh1.lQ.out t6.drew (by decide) e)).grown hf2.2 (fun e=>bG hf1.1.out (t6.drew.grown hf1.2 (fun e=>bG hh1.lQ.out t6.drew (by decide) e)) (by decide) e)
     have v7:=(t7.drew.grown hf1.2 (fun e=>bG hh1.lQ.out t7.drew (by decide) e)).grown hf2.2 (fun e=>bG hf1.1.out (t7.drew.grown hf1.2 (fun e=>bG hh1.lQ.out t7.drew (by decide) e)) (by decide) e)
     have v1:=(t1.drew.grown hf1.2 (fun e=>bG hh1.lQ.out t1.drew (by decide) e)).grown hf2.2 (fun e=>bG hf1.1.out (t1.drew.grown hf1.2 (fun e=>bG hh1.lQ.out t1.drew (by decide) e)) (by decide) e)
     obtain⟨W3,hW3⟩:∃ W3,W3=(W1.drew.setCell ⟨go,K*9+6,none⟩ (.bool true)).setCell ⟨go,K*9+5,none⟩ (.int .i64 v):=⟨_,rfl⟩
     rw[←hW3]at NC Nv v6 v7 v1
     have HF:=hid (And.intro Nv (And.intro v6 (And.intro v7 (And.intro v1 NC))))
     have HW3:=hid hW3
     have Dv:=hid bE.drew
     have hgW:W.heap.size≠go:=by omega
     have hout1:(W1.drew.setCell ⟨go,K*9+6,none⟩ (.bool true)).ownsRow w.heap.size 58 9 (.slice (some ⟨go,0,none⟩) h.out.length co) h.out.length (kK (h.out.set K { at0 with com:=true }) H):=by have:=hf1.1.out;simpa only[List.length_set]using this
     have V6:K < (h.out.set K { at0 with com:=true }).length:=by rw[List.length_set];exact vJ
     have Lu:Hid ((W1.drew.setCell ⟨go,K*9+6,none⟩ (.bool true)).cell? ⟨go,K*9+5,none⟩=some (.int .i64 at0.wv)):=hid (((hout1.cellAt (K*9+5) (by omega)).trans (fO (j:=5) V6 (by decide))).trans (by rw[aQ _ _ _ _ vJ];rfl))
     clear hout1 V6
     have HZ:=hid (And.intro a5 (And.intro a6 (And.intro z5 Z9)))
     clear hf1 hf2 NC Nv v6 v7 v1 hW3 hko t6 t7 t1 hh1 bE hlen2
     gi_wp2
     clear c6 c7 z6 z7 dO zW a3 a5 a6 z3 z5 Z9 f0 f3 f4 f5
     apply mZ [.pointer (some ⟨go,K*9,none⟩),.pointer (some ⟨go,K*9,none⟩),.pointer (some ⟨W.heap.size,4,none⟩),.int .i64 v,.pointer (some ⟨go,K*9,none⟩),.pointer (some ⟨go,K*9+6,none⟩),undef,.pointer (some ⟨go,K*9,none⟩),.pointer (some ⟨go,K*9+5,none⟩),undef] (fD W1.drew go (K*9+6) (K*9+5) (.bool true) (.int .i64 v) 6 9)
     focus (simp[ay,aB,Act.put,List.getD];rfl)
     case hm=>kernel_rfl
     case hnd=>kernel_rfl
     case hq=>rintro⟨ax,wx,hx⟩;exact hx
     case hd=>kernel_rfl
     case hb=>kernel_rfl
     case kJ=>kernel_rfl
     case hsel=>kernel_rfl
     case iR=>kernel_rfl
     case hgv=>kernel_rfl
     case hsz=>kernel_rfl
     case jf=>(intro l1 l2 w' hx hG;exact hG.ext (of_decide_eq_true (by kernel_rfl)) (of_decide_eq_true (by kernel_rfl)) hx)
     case h0=>exact fD.start
     case hstep=>
      refine⟨?_,?_,?_,?_,?_,?_,?_,?_,?_,?_,trivial⟩
      ·intro l' w' hl hdp hJ
       rw[if_pos (by kernel_rfl)]
       intro K' Qp hK
       have HJ:=hid hJ
       clear hJ
       go_simp
       exact hK _ (HJ.out.other 0 (by omega) (by omega))
      ·intro l' w' hl hdp hJ
       rw[if_pos (by kernel_rfl)]
       intro K' Qp hK
       have HJ:=hid hJ
       clear hJ
       go_simp
       exact hK _ (HJ.out.other 1 (by omega) (by omega))
      ·intro l' w' hl hdp hJ
       rw[if_pos (by kernel_rfl)]
       intro K' Qp hK
       have HJ:=hid hJ
       clear hJ
       go_simp
       exact hK _ (HJ.out.other 2 (by omega) (by omega))
      ·intro l' w' hl hdp hJ
       rw[if_pos (by kernel_rfl)]
       intro K' Qp hK
       have d4:=(hJ.YX hgW Dv.out).cell 4 (v:=.int .i64 v) rfl
       have HJ:=hid hJ
       clear hJ
       go_simp
       exact hK _ (HJ.out.other 3 (by omega) (by omega))
      ·intro l' w' hl hdp hJ
       rw[if_pos (by kernel_rfl)]
       intro K' Qp hK
       have HJ:=hid hJ
       clear hJ
       go_simp
       exact hK _ (HJ.out.other 4 (by omega) (by omega))
      ·intro l' w' hl hdp hJ
       rw[if_pos (by kernel_rfl)]
       intro K' Qp hK
       have HJ:=hid hJ
       clear hJ
       go_simp
       exact hK _ (HJ.out.other 5 (by omega) (by omega))
      ·intro l' w' hl hdp hJ
       rw[if_pos (by kernel_rfl)]
       intro K' Qp hK
       obtain⟨rfl,hJ'⟩:=hJ.first (by omega) hl
       have HJ:=hid hJ'
       obtain⟨q1,q2,q3,q4⟩:=HZ.out
       clear hJ hJ'
       go_simp
       exact hK _ HJ.out
      ·intro l' w' hl hdp hJ
       rw[if_pos (by kernel_rfl)]
       intro K' Qp hK
       have HJ:=hid hJ
       clear hJ
       go_simp
       exact hK _ (HJ.out.other 7 (by omega) (by omega))
      ·intro l' w' hl hdp hJ
       rw[if_pos (by kernel_rfl)]
       intro K' Qp hK
       have HJ:=hid hJ
       clear hJ
       go_simp
       exact hK _ (HJ.out.other 8 (by omega) (by omega))
      ·intro l' w' hl hdp hJ
       rw[if_pos (by kernel_rfl)]
       intro K' Qp hK
       obtain⟨rfl,hJ'⟩:=hJ.second (by omega) (hdp 6 rfl) hl
       have HJ:=hid hJ'
       obtain⟨q1,q2,q3,q4⟩:=HZ.out
       have q5':=Lu.out
       clear hJ hJ'
       go_simp
       exact hK _ HJ.out
     case hdone=>
      intro w' hG
      have hw3:=hG.done
      rw[←HW3.out]at hw3
      subst hw3
      clear hG
      obtain⟨hko,t6,t7,t1,hh3⟩:=HF.out
      have c6:=t6.cell 0 (v:=.slice (some ⟨go,0,none⟩) h.out.length co) rfl
      have c7:=t7.cell 0 (v:=.slice (some ⟨gw,0,none⟩) h.out.length cw) rfl
      have hown3:w'.ownsRow w.heap.size 3 1 (.slice (some ⟨gw,0,none⟩) h.out.length cw) h.out.length (h.owned.map (.int .i64)):=by have:=hh3.own;simpa only[List.length_set]using this
      have Nr:w'.ownsRow w.heap.size 58 9 (.slice (some ⟨go,0,none⟩) h.out.length co) h.out.length (kK (h.out.set K { at0 with com:=true,wv:=v }) H):=by have:=hh3.out;simpa only[List.length_set]using this
      have dO:=(hown3.cellAt K (by omega))
      rw[List.getElem?_map,hk2,Option.map_some]at dO
      have YI:K < (h.out.set K { at0 with com:=true,wv:=v }).length:=by rw[List.length_set];exact vJ
      have a3:w'.cell? ⟨go,K*9+3,none⟩=some (.int .i64 at0.dI):=((Nr.cellAt (K*9+3) (by omega)).trans (fO (j:=3) YI (by decide))).trans (by rw[aQ _ _ _ _ vJ];rfl)
      have z3:=Nr.frozenAt (K*9+3)
      clear HF hown3 Nr
      by_cases hz:oo=0
      ·rw[if_pos hz]at hTA
       have z1:(oo==0)=true:=by rw[hz];rfl
       clear hz
       have hf:=bJ.field (h:=⟨h.last,h.out.set K { at0 with com:=true,wv:=v },h.owned⟩) (k:=K) (j:=3) (a':={ at0 with com:=true,wv:=v,dI:=(k:Int) }) (u:=.int .i64 (k:Int)) (by have:=hh3;rwa [show h.out.length=(h.out.set K { at0 with com:=true,wv:=v }).length by rw[List.length_set]]at this) (by show K < (h.out.set K _).length;rw[List.length_set];exact vJ) (by decide) (by show(kP ((h.out.set K _).getD K aH.zero) _ _).set _ _=_;rw[aQ _ _ _ _ vJ];rfl) (by intro b;show _=rC ((h.out.set K _).getD K aH.zero) b;rw[aQ _ _ _ _ vJ];cases b <;> rfl)
       have hlen3:(h.out.set K { at0 with com:=true,wv:=v }).length=h.out.length:=by rw[List.length_set]
       have lY:=hko.set (b:=go) (o:=K*9+3) hgb (.int .i64 (k:Int))
       have Ag:=t6.grown hf.2 (fun e=>bG hh3.out t6 (by decide) (by simpa[Value.ownBlock]using e))
       have Af:=t7.grown hf.2 (fun e=>bG hh3.out t7 (by decide) (by simpa[Value.ownBlock]using e))
       have Ah:=t1.grown hf.2 (fun e=>bG hh3.out t1 (by decide) (by simpa[Value.ownBlock]using e))
       have OT:=hf.1
       dsimp only at OT
       rw[hlen3,List.set_set]at OT
       have HF2:=hid (And.intro lY (And.intro Ag (And.intro Af (And.intro Ah OT))))
       clear hf hlen3 lY Ag Af Ah OT hko t6 t7 t1 hh3
       gi_wp2
       obtain⟨hko,t6,t7,t1,hh2⟩:=HF2.out
       exact⟨(hko).1.from _,⟨(hko).2,(hko).1.walks⟩,⟨.slice (some ⟨go,0,none⟩) h.out.length co,.slice (some ⟨gw,0,none⟩) h.out.length cw,H,t6,t7,hh2.as (by first | exact(congrArg (h.out.set K) hTA.symm) | exact rfl) (by first | exact((bg hk2).symm.trans (congrArg (h.owned.set K) xy.symm)) | exact(bg hk2).symm)⟩,t1,EW.out.trans (hko).2⟩
      ·rw[if_neg hz]at hTA
       have z1:(oo==0)=false:=beq_eq_false_iff_ne.2 hz
       clear hz
       have HF2:=hid (And.intro hko (And.intro t6 (And.intro t7 (And.intro t1 hh3))))
       clear hko t6 t7 t1 hh3
       gi_wp2
       obtain⟨hko,t6,t7,t1,hh2⟩:=HF2.out
       exact⟨(hko).1.from _,⟨(hko).2,(hko).1.walks⟩,⟨.slice (some ⟨go,0,none⟩) h.out.length co,.slice (some ⟨gw,0,none⟩) h.out.length cw,H,t6,t7,hh2.as (by first | exact(congrArg (h.out.set K) hTA.symm) | exact rfl) (by first | exact((bg hk2).symm.trans (congrArg (h.owned.set K) xy.symm)) | exact(bg hk2).symm)⟩,t1,EW.out.trans (hko).2⟩
    ·subst kx
     have hTA:bK at0 oo ⟨8,th,tx,at_,v,x,why⟩ (k:Int)={ at0 with writes:=at0.writes++[(at_,x)] }:=rfl
     have xy:dY oo ⟨8,th,tx,at_,v,x,why⟩=oo:=rfl
     have hrow:=(hh1.lQ.rows K true vJ)
     rw[nS]at hrow
     have nN:=hrow.alloc (.cells #[.int .i64 at_,.int .i64 x] 61)
     have hfr:=lS W1.drew #[.int .i64 at_,.int .i64 x] 61
     have hfs:W1.drew.heap.size=W1.heap.size:=rfl
     rw[hfs]at hfr
     have hpl:(rC at0 true).length≤k:=Ns
     obtain⟨v',w1,hrun,hown',hgrow,hnil,hblk⟩:=run_append_own_at (P:=Tryd.prog) (W1.drew.alloc (.cells #[.int .i64 at_,.int .i64 x] 61)) w.heap.size 56 56 61 iP _ 2 16 Tryd.underlying56 hiP hp0 hp1 hp2 rfl (by decide) (H K true) _ _ nN ⟨W1.heap.size,0,none⟩ 1 1 [.int .i64 at_,.int .i64 x] rfl hfr (by simp[Value.oneCell']) (by unfold maxLen;omega) (by omega) (by rw[World.size_alloc,hfs];omega)
     obtain⟨gp,cp,rfl⟩:=ownsRow_succ hown'
     obtain⟨hp1',hp2'⟩:=bJ.pair (k:=K) (b:=true) (p:=(at_,x)) (a':={ at0 with writes:=at0.writes++[(at_,x)] }) ((hh1.lQ).calm (World.grownBy_alloc _ (.cells #[.int .i64 at_,.int .i64 x] 61) none)) vJ (by rw[nS];exact hown') (by exact hgrow) (by rcases hblk with e | e;exact .inl e;exact .inr ⟨_,e,Nat.le_refl _⟩) (by rw[nS];rfl) (by rw[nS];rfl) (by rw[nS];rfl)
     have Nw:=((hko.drew.alloc hsW (.cells #[.int .i64 at_,.int .i64 x] 61)).grow hsW nN hgrow)
     have lY:=Nw.set (b:=go) (o:=K*9+8) hgb (.slice (some ⟨gp,0,none⟩) ((rC at0 true).length+1) cp)
     have wG:=qY ((hh1.lQ.out).alloc (.cells #[.int .i64 at_,.int .i64 x] 61)) nN hgrow (by decide)
     have u6:=((t6.drew).alloc (.cells #[.int .i64 at_,.int .i64 x] 61)).grow nN hgrow (by decide)
     have u7:=((t7.drew).alloc (.cells #[.int .i64 at_,.int .i64 x] 61)).grow nN hgrow (by decide)
     have u1:=((t1.drew).alloc (.cells #[.int .i64 at_,.int .i64 x] 61)).grow nN hgrow (by decide)
     have Ag:=u6.grown hp2' (fun e=>bG wG u6 (by decide) e)
     have Af:=u7.grown hp2' (fun e=>bG wG u7 (by decide) e)
     have Ah:=u1.grown hp2' (fun e=>bG wG u1 (by decide) e)
     have zo:=wG.frozenAt (K*9+8)
     have dW:=(wG.cellAt (K*9+8) (by omega)).trans (fO (j:=8) vJ (by decide))
     have HF:=hid (And.intro lY (And.intro Ag (And.intro Af (And.intro Ah hp1'))))
     have YR:=bE.drew.cell 3 (v:=.int .i64 at_) rfl
     have YQ:=bE.drew.cell 5 (v:=.int .i64 x) rfl
     have NT:=(bE.drew.alloc (.cells #[.int .i64 at_,.int .i64 x] 61)).cell 3 (v:=.int .i64 at_) rfl
     have NS:=(bE.drew.alloc (.cells #[.int .i64 at_,.int .i64 x] 61)).cell 5 (v:=.int .i64 x) rfl
     have dH:=((hh1.lQ).out.cellAt (K*9+8) (by omega)).trans (fO (j:=8) vJ (by decide))
     have We:=(((hh1.lQ).out.alloc (.cells #[.int .i64 at_,.int .i64 x] 61)).cellAt (K*9+8) (by omega)).trans (fO (j:=8) vJ (by decide))
     obtain⟨Wd,hWd⟩:∃ Wd,Wd=W1.drew:=⟨_,rfl⟩
     obtain⟨Wt,Ll⟩:∃ Wt,Wt=Wd.alloc (.cells #[.int .i64 at_,.int .i64 x] 61):=⟨_,rfl⟩
     have YG:Wd.heap.size=W1.heap.size:=by rw[hWd];rfl
     rw[←hWd]at hrun YR YQ dH NT NS We
     rw[←Ll]at hrun NT NS We
     have Y8:=hid hWd
     have Wq:=hid Ll
     have Ik:=hid hrun
     clear hrun hko t6 t7 t1 hh1 hrow nN hfr hfs hown' hgrow hnil hblk hp1' hp2' Nw lY wG u6 u7 u1 Ag Af Ah hWd Ll bE
     gi_wp2
     clear c6 c7 z6 z7
     apply mZ [.pointer (some ⟨go,K*9,none⟩),.pointer (some ⟨go,K*9,none⟩),.pointer (some ⟨go,K*9,none⟩),.pointer (some ⟨go,K*9+8,none⟩),H K true,.pointer (some ⟨W.heap.size,3,none⟩),.int .i64 at_,.pointer (some ⟨W.heap.size,5,none⟩),.int .i64 x,.agg #[.int .i64 at_,.int .i64 x],.slice (some ⟨W1.heap.size,0,none⟩) 1 1,.slice (some ⟨gp,0,none⟩) ((rC at0 true).length+1) cp,.pointer (some ⟨go,K*9,none⟩),.pointer (some ⟨go,K*9+8,none⟩),undef] (lF _ 10 11 14 Wd Wt w1 (w1.setCell ⟨go,K*9+8,none⟩ (.slice (some ⟨gp,0,none⟩) ((rC at0 true).length+1) cp)))
     focus (simp[ay,aB,Act.put,List.getD];rfl)
     case hm=>kernel_rfl
     case hnd=>kernel_rfl
     case hq=>rintro⟨ax,wx,hx⟩;exact hx
     case hd=>kernel_rfl
     case hb=>kernel_rfl
     case kJ=>kernel_rfl
     case hsel=>kernel_rfl
     case iR=>kernel_rfl
     case hgv=>kernel_rfl
     case hsz=>kernel_rfl
     case jf=>(intro l1 l2 w' hx hG;exact hG.ext (by kernel_rfl) (of_decide_eq_true (by kernel_rfl)) (of_decide_eq_true (by kernel_rfl)) (of_decide_eq_true (by kernel_rfl)) hx)
     case h0=>(rw[←Y8.out];exact lF.start)
     case hstep=>
      refine⟨?_,?_,?_,?_,?_,?_,?_,?_,?_,?_,?_,?_,?_,?_,?_,trivial⟩
      ·intro l' w' hl hdp hG
       rw[if_pos (by kernel_rfl)]
       intro K' Qp hK
       have HG:=hid (hG.other (i:=0) rfl hdp (by decide) (by decide) (by decide))
       clear hG hl hdp
       go_simp
       exact hK _ HG.out
      ·intro l' w' hl hdp hG
       rw[if_pos (by kernel_rfl)]
       intro K' Qp hK
       have HG:=hid (hG.other (i:=1) rfl hdp (by decide) (by decide) (by decide))
       clear hG hl hdp
       go_simp
       exact hK _ HG.out
      ·intro l' w' hl hdp hG
       rw[if_pos (by kernel_rfl)]
       intro K' Qp hK
       have HG:=hid (hG.other (i:=2) rfl hdp (by decide) (by decide) (by decide))
       clear hG hl hdp
       go_simp
       exact hK _ HG.out
      ·intro l' w' hl hdp hG
       rw[if_pos (by kernel_rfl)]
       intro K' Qp hK
       have HG:=hid (hG.other (i:=3) rfl hdp (by decide) (by decide) (by decide))
       clear hG hl hdp
       go_simp
       exact hK _ HG.out
      ·intro l' w' hl hdp hG
       rw[if_pos (by kernel_rfl)]
       intro K' Qp hK
       have rP:l' 11=false:=by
        cases h11:l' 11 with
        | false=>rfl
        | true=>rw[hG.clo 11 _ 4 rfl h11 rfl]at hl;cases hl
       have HG:=hid (hG.other (i:=4) rfl hdp (by decide) (by decide) (by decide))
       have hw:w'=Wd∨w'=Wt:=by
        cases h10:l' 10 with
        | false=>exact .inl (hG.s0 h10)
        | true=>exact .inr (hG.s1 h10 rP)
       clear hG hl hdp rP
       rcases hw with rfl | rfl
       ·go_simp
        exact hK _ HG.out
       ·go_simp
        exact hK _ HG.out
      ·intro l' w' hl hdp hG
       rw[if_pos (by kernel_rfl)]
       intro K' Qp hK
       have HG:=hid (hG.other (i:=5) rfl hdp (by decide) (by decide) (by decide))
       clear hG hl hdp
       go_simp
       exact hK _ HG.out
      ·intro l' w' hl hdp hG
       rw[if_pos (by kernel_rfl)]
       intro K' Qp hK
       have rP:l' 11=false:=by
        cases h11:l' 11 with
        | false=>rfl
        | true=>rw[hG.clo 9 _ 6 rfl (hG.clo 10 _ 9 rfl (hG.clo 11 _ 10 rfl h11 rfl) rfl) rfl]at hl;cases hl
       have HG:=hid (hG.other (i:=6) rfl hdp (by decide) (by decide) (by decide))
       have hw:w'=Wd∨w'=Wt:=by
        cases h10:l' 10 with
        | false=>exact .inl (hG.s0 h10)
        | true=>exact .inr (hG.s1 h10 rP)
       clear hG hl hdp rP
       rcases hw with rfl | rfl
       ·go_simp
        exact hK _ HG.out
       ·go_simp
        exact hK _ HG.out
      ·intro l' w' hl hdp hG
       rw[if_pos (by kernel_rfl)]
       intro K' Qp hK
       have HG:=hid (hG.other (i:=7) rfl hdp (by decide) (by decide) (by decide))
       clear hG hl hdp
       go_simp
       exact hK _ HG.out
      ·intro l' w' hl hdp hG
       rw[if_pos (by kernel_rfl)]
       intro K' Qp hK
       have rP:l' 11=false:=by
        cases h11:l' 11 with
        | false=>rfl
        | true=>rw[hG.clo 9 _ 8 rfl (hG.clo 10 _ 9 rfl (hG.clo 11 _ 10 rfl h11 rfl) rfl) rfl]at hl;cases hl
       have HG:=hid (hG.other (i:=8) rfl hdp (by decide) (by decide) (by decide))
       have hw:w'=Wd∨w'=Wt:=by
        cases h10:l' 10 with
        | false=>exact .inl (hG.s0 h10)
        | true=>exact .inr (hG.s1 h10 rP)
       clear hG hl hdp rP
       rcases hw with rfl | rfl
       ·go_simp
        exact hK _ HG.out
       ·go_simp
        exact hK _ HG.out
      ·intro l' w' hl hdp hG
       rw[if_pos (by kernel_rfl)]
       intro K' Qp hK
       have HG:=hid (hG.other (i:=9) rfl hdp (by decide) (by decide) (by decide))
       clear hG hl hdp
       go_simp
       exact hK _ HG.out
      ·intro l' w' hl hdp hG
       rw[if_pos (by kernel_rfl)]
       intro K' Qp hK
       obtain⟨rfl,hG'⟩:=hG.first rfl hdp hl (fun h11=>hG.clo 11 _ 10 rfl h11 rfl) (fun OV=>hG.clo 14 _ 11 rfl OV rfl) (by decide) (by decide)
       have HG:=hid hG'
       clear hG hl hdp hG'
       go_simp
       rw[←Wq.out]
       exact hK _ HG.out
      ·intro l' w' hl hdp hG
       rw[if_pos (by kernel_rfl)]
       intro K' Qp hK
       obtain⟨rfl,hG'⟩:=hG.second rfl hdp hl (hdp 10 rfl) (fun OV=>hG.clo 14 _ 11 rfl OV rfl) (by decide) (by decide)
       have HG:=hid hG'
       clear hG hl hdp hG'
       refine aO.wp (bW (s:=.tmp 76) (x:=.tmp 82) (t:=56) rfl (vs:=H K true) (vx:=.slice (some ⟨W1.heap.size,0,none⟩) 1 1) rfl rfl Ik.out (hK _ HG.out))
      ·intro l' w' hl hdp hG
       rw[if_pos (by kernel_rfl)]
       intro K' Qp hK
       have HG:=hid (hG.other (i:=12) rfl hdp (by decide) (by decide) (by decide))
       clear hG hl hdp
       go_simp
       exact hK _ HG.out
      ·intro l' w' hl hdp hG
       rw[if_pos (by kernel_rfl)]
       intro K' Qp hK
       have HG:=hid (hG.other (i:=13) rfl hdp (by decide) (by decide) (by decide))
       clear hG hl hdp
       go_simp
       exact hK _ HG.out
      ·intro l' w' hl hdp hG
       rw[if_pos (by kernel_rfl)]
       intro K' Qp hK
       obtain⟨rfl,hG'⟩:=hG.third rfl hdp hl (hdp 11 rfl) (hG.clo 11 _ 10 rfl (hdp 11 rfl) rfl) (by decide) (by decide)
       have HG:=hid hG'
       clear hG hl hdp hG'
       go_simp
       exact hK _ HG.out
     case hdone=>
      intro w' hG
      obtain rfl:=hG.done
      clear hG
      gi_wp2
      obtain⟨hko,t6,t7,t1,hh2⟩:=HF.out
      exact⟨(hko).1.from _,⟨(hko).2,(hko).1.walks⟩,⟨.slice (some ⟨go,0,none⟩) h.out.length co,.slice (some ⟨gw,0,none⟩) h.out.length cw,_,t6,t7,hh2.as (by first | exact(congrArg (h.out.set K) hTA.symm) | exact rfl) (by first | exact((bg hk2).symm.trans (congrArg (h.owned.set K) xy.symm)) | exact(bg hk2).symm)⟩,t1,EW.out.trans (hko).2⟩
    ·subst kx
     have hTA:bK at0 oo ⟨9,th,tx,at_,v,x,why⟩ (k:Int)={ at0 with dI:=if oo-1=0 then(k:Int)else at0.dI }:=rfl
     have xy:dY oo ⟨9,th,tx,at_,v,x,why⟩=oo-1:=rfl
     have hc2:=hh1.count (k:=K) (oo-1)
     have xw:=hko.set (b:=gw) (o:=K) hwb (.int .i64 (oo-1))
     have t62:=t6.grown hc2.2 (fun e=>bG hh1.own t6 (by decide) e)
     have t72:=t7.grown hc2.2 (fun e=>bG hh1.own t7 (by decide) e)
     have t12:=t1.grown hc2.2 (fun e=>bG hh1.own t1 (by decide) e)
     have wr:IntKind.i64.wrap (oo-1)=oo-1:=IntWalk.i64_in _ (by omega)
     by_cases hz:oo-1=0
     ·rw[if_pos hz]at hTA
      have z1:(oo-1==0)=true:=by rw[hz];rfl
      clear hz
      have hf:=bJ.field (h:=⟨h.last,h.out,h.owned.set K (oo-1)⟩) (k:=K) (j:=3) (a':={ at0 with dI:=(k:Int) }) (u:=.int .i64 (k:Int)) hc2.1 vJ (by decide) (by rw[nS];rfl) (by intro b;rw[nS];cases b <;> rfl)
      have lY:=xw.set (b:=go) (o:=K*9+3) hgb (.int .i64 (k:Int))
      have Ag:=t62.grown hf.2 (fun e=>bG hc2.1.out t62 (by decide) e)
      have Af:=t72.grown hf.2 (fun e=>bG hc2.1.out t72 (by decide) e)
      have Ah:=t12.grown hf.2 (fun e=>bG hc2.1.out t12 (by decide) e)
      have HF:=hid (And.intro lY (And.intro Ag (And.intro Af (And.intro Ah hf.1))))
      clear hko t6 t7 t1 hh1 xw t62 t72 t12 hc2 lY Ag Af Ah hf
      gi_wp2
      obtain⟨hko,t6,t7,t1,hh2⟩:=HF.out
      exact⟨(hko).1.from _,⟨(hko).2,(hko).1.walks⟩,⟨.slice (some ⟨go,0,none⟩) h.out.length co,.slice (some ⟨gw,0,none⟩) h.out.length cw,H,t6,t7,hh2.as (by first | exact(congrArg (h.out.set K) hTA.symm) | exact rfl) (by first | exact(congrArg (h.owned.set K) xy.symm) | exact rfl)⟩,t1,EW.out.trans (hko).2⟩
     ·rw[if_neg hz]at hTA
      have z1:(oo-1==0)=false:=beq_eq_false_iff_ne.2 hz
      clear hz
      have HF:=hid (And.intro xw (And.intro t62 (And.intro t72 (And.intro t12 hc2.1))))
      clear hko t6 t7 t1 hh1 xw t62 t72 t12 hc2
      gi_wp2
      obtain⟨hko,t6,t7,t1,hh2⟩:=HF.out
      exact⟨(hko).1.from _,⟨(hko).2,(hko).1.walks⟩,⟨.slice (some ⟨go,0,none⟩) h.out.length co,.slice (some ⟨gw,0,none⟩) h.out.length cw,H,t6,t7,hh2.as (by first | exact((bg hk1).symm.trans (congrArg (h.out.set K) hTA.symm)) | exact(bg hk1).symm) (by first | exact(congrArg (h.owned.set K) xy.symm) | exact rfl)⟩,t1,EW.out.trans (hko).2⟩
    ·subst kx
     have hTA:bK at0 oo ⟨10,th,tx,at_,v,x,why⟩ (k:Int)={ at0 with dI:=if oo=0 then(k:Int)else at0.dI }:=rfl
     have xy:dY oo ⟨10,th,tx,at_,v,x,why⟩=oo:=rfl
     by_cases hz:oo=0
     ·rw[if_pos hz]at hTA
      have z1:(oo==0)=true:=by rw[hz];rfl
      clear hz
      have hf:=bJ.field (k:=K) (j:=3) (a':={ at0 with dI:=(k:Int) }) (u:=.int .i64 (k:Int)) hh1 vJ (by decide) (by rw[nS];rfl) (by intro b;rw[nS];cases b <;> rfl)
      have lY:=hko.set (b:=go) (o:=K*9+3) hgb (.int .i64 (k:Int))
      have Ag:=t6.grown hf.2 (fun e=>bG hh1.out t6 (by decide) e)
      have Af:=t7.grown hf.2 (fun e=>bG hh1.out t7 (by decide) e)
      have Ah:=t1.grown hf.2 (fun e=>bG hh1.out t1 (by decide) e)
      have HF:=hid (And.intro lY (And.intro Ag (And.intro Af (And.intro Ah hf.1))))
      clear hko t6 t7 t1 hh1 lY Ag Af Ah hf
      gi_wp2
      obtain⟨hko,t6,t7,t1,hh2⟩:=HF.out
      exact⟨(hko).1.from _,⟨(hko).2,(hko).1.walks⟩,⟨.slice (some ⟨go,0,none⟩) h.out.length co,.slice (some ⟨gw,0,none⟩) h.out.length cw,H,t6,t7,hh2.as (by first | exact(congrArg (h.out.set K) hTA.symm) | exact rfl) (by first | exact((bg hk2).symm.trans (congrArg (h.owned.set K) xy.symm)) | exact(bg hk2).symm)⟩,t1,EW.out.trans (hko).2⟩
     ·rw[if_neg hz]at hTA
      have z1:(oo==0)=false:=beq_eq_false_iff_ne.2 hz
      clear hz
      have HF:=hid (And.intro hko (And.intro t6 (And.intro t7 (And.intro t1 hh1))))
      clear hko t6 t7 t1 hh1
      gi_wp2
      obtain⟨hko,t6,t7,t1,hh2⟩:=HF.out
      exact⟨(hko).1.from _,⟨(hko).2,(hko).1.walks⟩,⟨.slice (some ⟨go,0,none⟩) h.out.length co,.slice (some ⟨gw,0,none⟩) h.out.length cw,H,t6,t7,hh2.as (by first | exact((bg hk1).symm.trans (congrArg (h.out.set K) hTA.symm)) | exact(bg hk1).symm) (by first | exact((bg hk2).symm.trans (congrArg (h.owned.set K) xy.symm)) | exact(bg hk2).symm)⟩,t1,EW.out.trans (hko).2⟩
    ·subst kx
     have hTA:bK at0 oo ⟨11,th,tx,at_,v,x,why⟩ (k:Int)={ at0 with dI:=if oo-1=0 then(k:Int)else at0.dI }:=rfl
     have xy:dY oo ⟨11,th,tx,at_,v,x,why⟩=oo-1:=rfl
     have hc2:=hh1.count (k:=K) (oo-1)
     have xw:=hko.set (b:=gw) (o:=K) hwb (.int .i64 (oo-1))
     have t62:=t6.grown hc2.2 (fun e=>bG hh1.own t6 (by decide) e)
     have t72:=t7.grown hc2.2 (fun e=>bG hh1.own t7 (by decide) e)
     have t12:=t1.grown hc2.2 (fun e=>bG hh1.own t1 (by decide) e)
     have wr:IntKind.i64.wrap (oo-1)=oo-1:=IntWalk.i64_in _ (by omega)
     by_cases hz:oo-1=0
     ·rw[if_pos hz]at hTA
      have z1:(oo-1==0)=true:=by rw[hz];rfl
      clear hz
      have hf:=bJ.field (h:=⟨h.last,h.out,h.owned.set K (oo-1)⟩) (k:=K) (j:=3) (a':={ at0 with dI:=(k:Int) }) (u:=.int .i64 (k:Int)) hc2.1 vJ (by decide) (by rw[nS];rfl) (by intro b;rw[nS];cases b <;> rfl)
      have lY:=xw.set (b:=go) (o:=K*9+3) hgb (.int .i64 (k:Int))
      have Ag:=t62.grown hf.2 (fun e=>bG hc2.1.out t62 (by decide) e)
      have Af:=t72.grown hf.2 (fun e=>bG hc2.1.out t72 (by decide) e)
      have Ah:=t12.grown hf.2 (fun e=>bG hc2.1.out t12 (by decide) e)
      have HF:=hid (And.intro lY (And.intro Ag (And.intro Af (And.intro Ah hf.1))))
      clear hko t6 t7 t1 hh1 xw t62 t72 t12 hc2 lY Ag Af Ah hf
      gi_wp2
      obtain⟨hko,t6,t7,t1,hh2⟩:=HF.out
      exact⟨(hko).1.from _,⟨(hko).2,(hko).1.walks⟩,⟨.slice (some ⟨go,0,none⟩) h.out.length co,.slice (some ⟨gw,0,none⟩) h.out.length cw,H,t6,t7,hh2.as (by first | exact(congrArg (h.out.set K) hTA.symm) | exact rfl) (by first | exact(congrArg (h.owned.set K) xy.symm) | exact rfl)⟩,t1,EW.out.trans (hko).2⟩
     ·rw[if_neg hz]at hTA
      have z1:(oo-1==0)=false:=beq_eq_false_iff_ne.2 hz
      clear hz
      have HF:=hid (And.intro xw (And.intro t62 (And.intro t72 (And.intro t12 hc2.1))))
      clear hko t6 t7 t1 hh1 xw t62 t72 t12 hc2
      gi_wp2
      obtain⟨hko,t6,t7,t1,hh2⟩:=HF.out
      exact⟨(hko).1.from _,⟨(hko).2,(hko).1.walks⟩,⟨.slice (some ⟨go,0,none⟩) h.out.length co,.slice (some ⟨gw,0,none⟩) h.out.length cw,H,t6,t7,hh2.as (by first | exact((bg hk1).symm.trans (congrArg (h.out.set K) hTA.symm)) | exact(bg hk1).symm) (by first | exact(congrArg (h.owned.set K) xy.symm) | exact rfl)⟩,t1,EW.out.trans (hko).2⟩
    ·subst kx
     have hTA:bK at0 oo ⟨12,th,tx,at_,v,x,why⟩ (k:Int)={ at0 with dI:=(k:Int) }:=rfl
     have xy:dY oo ⟨12,th,tx,at_,v,x,why⟩=oo:=rfl
     have hf:=bJ.field (k:=K) (j:=3) (a':={ at0 with dI:=(k:Int) }) (u:=.int .i64 (k:Int)) hh1 vJ (by decide) (by rw[nS];rfl) (by intro b;rw[nS];cases b <;> rfl)
     have lY:=hko.set (b:=go) (o:=K*9+3) hgb (.int .i64 (k:Int))
     have Ag:=t6.grown hf.2 (fun e=>bG hh1.out t6 (by decide) e)
     have Af:=t7.grown hf.2 (fun e=>bG hh1.out t7 (by decide) e)
     have Ah:=t1.grown hf.2 (fun e=>bG hh1.out t1 (by decide) e)
     have HF:=hid (And.intro lY (And.intro Ag (And.intro Af (And.intro Ah hf.1))))
     clear hko t6 t7 t1 hh1 lY Ag Af Ah hf
     gi_wp2
     obtain⟨hko,t6,t7,t1,hh2⟩:=HF.out
     exact⟨(hko).1.from _,⟨(hko).2,(hko).1.walks⟩,⟨.slice (some ⟨go,0,none⟩) h.out.length co,.slice (some ⟨gw,0,none⟩) h.out.length cw,H,t6,t7,hh2.as (by first | exact(congrArg (h.out.set K) hTA.symm) | exact rfl) (by first | exact((bg hk2).symm.trans (congrArg (h.owned.set K) xy.symm)) | exact(bg hk2).symm)⟩,t1,EW.out.trans (hko).2⟩
 case hdone=>
  rintro D W hD ⟨⟨vo,vw,H,h6,h7,hh⟩,h1,hB⟩ hK
  have Ri:=h6.cell 0 (v:=vo) rfl
  gi_wp2
  refine⟨by simp,.inl ⟨_,_,rfl,run_takeDeferred hK,?_⟩⟩
  refine⟨.tuple #[vo,.int .i64 0],by simp[results,Tryd.results8,go_sem],?_⟩
  rw[List.take_length]at hh
  refine HP.out vo _ (hB.trans (belowK_b (Nat.le_of_lt vK.out.2) W D _ _ (by have:=vK.out;omega) hK rfl rfl)) ⟨H,ownsRow_putObj hh.out (.deferred none) hK rfl,fun k b hk=>ownsRow_putObj (hh.rows k b hk) (.deferred none) hK rfl⟩
end Go.Proofs.YtcddlnmcjmhbcaaDoor
namespace Go.Proofs.YtcddlnmcjmhbcaaDoor
set_option linter.unusedVariables false
open Go Go.RowKit
theorem MC (T V S:Int) (a:Option Addr) (l:List Ev) (cap:Nat) (w:World) (hE:cO w a l) (hK:bn w) (hT:gJ w):Calls Tryd.prog 8 #[oZ T V S a l.length cap] w (QD T V S l w):=by
 by_cases hc:(aW T V S l).2=0
 ·exact Vr T V S a l cap w hE hK hT hc
 ·exact Vs T V S a l cap w hE hK hT hc
theorem Jr (T V S:Int) (a:Option Addr) (l:List Ev) (cap:Nat) (w:World) (hE:cO w a l) (hK:bn w) (hT:gJ w):Calls Tryd.prog 10 #[oZ T V S a l.length cap] w (sG T V S l w):=by
 by_cases hc:(aW T V S l).2=0
 ·exact split_ok T V S a l cap w hE hK hT hc
 ·exact LY T V S a l cap w hE hK hT hc
end Go.Proofs.YtcddlnmcjmhbcaaDoor
-- short
