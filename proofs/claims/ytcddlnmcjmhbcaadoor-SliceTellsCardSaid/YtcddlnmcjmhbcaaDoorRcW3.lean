/-
  Walk of the document's checker: Mine. (Printed in part: tools/gen_rc.py out of RcW3.tpl.)
-/
import Derived.Test.YtcddlnmcjmhbcaaDoorRgC
import Derived.Test.YtcddlnmcjmhbcaaDoorRgB
namespace Go.Proofs.YtcddlnmcjmhbcaaDoor
set_option linter.unusedVariables false
set_option linter.unusedSimpArgs false
open Go Go.RowKit
theorem BK (l:List Int) (n:Int) (base:Nat) (v:Value) (w:World) (h:bU w base 3 1 v l.length (fG l)) (hl:l.length≤1048576) (hb:base≤w.heap.size):
  Calls Tryd.prog 63 #[v,.int .i64 n] w fun e w2=>∃ y,e=.returned y∧Below w.heap.size w w2∧bU w2 base 3 1 y (fP l n).length (fG (fP l n)):=by
 have key:∀ (e:Ending) (w2:World),Ug w l n v e w2→∃ y,e=.returned y∧Below w.heap.size w w2∧bU w2 base 3 1 y (fP l n).length (fG (fP l n)):=by
  rintro e w2 ⟨y,rfl,h1,h2⟩
  refine⟨y,rfl,h1,?_⟩
  rcases h2 with⟨rfl,he⟩ | h2
  ·rw[he];exact h.old h1
  ·exact h2.wider hb
 obtain⟨a,cap,rfl,hc,h0,h1⟩:=h.Sl
 by_cases hn:l=[]
 ·subst hn
  have:=h0 rfl
  rw[this]at key⊢
  exact(PM n w).mono key
 ·obtain⟨b,o,rfl,h2⟩:=h1 hn
  exact(L9 l n b o cap w hn hl hc h2).mono key
def kS (a:AtR) (vL vr vl vf vs:Value):Array Value:=#[vL,.int .i64 a.rv,.int .i64 a.wv,vr,vl,vf,.int .i64 a.checked,vs,.int .u8 a.why,.int .u8 a.last]
theorem bU.shape {w:World} {base:Nat} {e:TypeId} {m:Nat} {v:Value} {n:Nat} {xs:List Value} (h:bU w base e m v n xs):∃ p c,v=.slice p n c:=by
 rcases h.cases with⟨rfl,-,rfl⟩ | ⟨g,cap,rfl,-⟩
 ·exact⟨_,_,rfl⟩
 ·exact⟨_,_,rfl⟩
structure jF (w:World) (b:Nat) (a:AtR) (vL vr vl vf vs:Value):Prop where
 rL:bU w b 49 7 vL a.L.length (a.L.flatMap qM)
 rr:bU w b 3 1 vr a.read.length (fG a.read)
 rl:bU w b 3 1 vl a.locked.length (fG a.locked)
 rf:bU w b 3 1 vf a.freed.length (fG a.freed)
 rs:bU w b 3 1 vs a.stored.length (fG a.stored)
variable {w w':World} {b B:Nat} {a:AtR} {vL vr vl vf vs:Value}
theorem jF.below (h:jF w b a vL vr vl vf vs) (hb:Below w.heap.size w w'):jF w' b a vL vr vl vf vs:=⟨h.rL.old hb,h.rr.old hb,h.rl.old hb,h.rf.old hb,h.rs.old hb⟩
theorem jF.turn (h:jF w b a vL vr vl vf vs) (hb:Turn [B] w w') (hB:B < b):jF w' b a vL vr vl vf vs:=
 have hl:∀ k∈[B],k < b:=fun k hk=>by rw[List.mem_singleton.1 hk];exact hB
 ⟨h.rL.turn hb hl,h.rr.turn hb hl,h.rl.turn hb hl,h.rf.turn hb hl,h.rs.turn hb hl⟩
theorem jF.set (h:jF w b a vL vr vl vf vs) (j:Nat) (x:Value) (hB:B < b):jF (w.setCell ⟨B,j,none⟩ x) b a vL vr vl vf vs:=
 h.turn ((Turn.of_below (af w)).setCell (p:=⟨B,j,none⟩) (Or.inl (by simp)) x) hB
theorem jF.zero (w:World) (b:Nat) {a:AtR} (h1:a.L=[]) (h2:a.read=[]) (h3:a.locked=[]) (h4:a.freed=[]) (h5:a.stored=[]):jF w b a (.slice none 0 0) (.slice none 0 0) (.slice none 0 0) (.slice none 0 0) (.slice none 0 0):=by
 refine⟨?_,?_,?_,?_,?_⟩
 ·rw[h1];exact bU.nil _ _ _ _
 ·rw[h2];exact bU.nil _ _ _ _
 ·rw[h3];exact bU.nil _ _ _ _
 ·rw[h4];exact bU.nil _ _ _ _
 ·rw[h5];exact bU.nil _ _ _ _
theorem jF.Xv {a':AtR} (h:jF w b a vL vr vl vf vs) (h1:a'.L=a.L:=by rfl) (h2:a'.read=a.read:=by rfl) (h3:a'.locked=a.locked:=by rfl) (h4:a'.freed=a.freed:=by rfl) (h5:a'.stored=a.stored:=by rfl):jF w b a' vL vr vl vf vs:=
 ⟨by rw[h1];exact h.rL,by rw[h2];exact h.rr,by rw[h3];exact h.rl,by rw[h4];exact h.rf,by rw[h5];exact h.rs⟩
structure OO (w:World) (B:Nat) (a:AtR) (vL vr vl vf vs:Value):Prop where
 k:aA w B (kS a vL vr vl vf vs) 95
 r:jF w (B+1) a vL vr vl vf vs
theorem OO.below (h:OO w B a vL vr vl vf vs) (hb:Below w.heap.size w w'):OO w' B a vL vr vl vf vs:=⟨h.k.below hb,h.r.below hb⟩
structure EN (a:AtR) (n:Nat):Prop where
 L:a.L.length≤n
 r:a.read.length≤n
 l:a.locked.length≤n
 f:a.freed.length≤n
 s:a.stored.length≤n
 c:a.checked≤n
theorem DT (l:List Int) (n:Int):(fP l n).length≤l.length+1:=by
 induction l with
 | nil=>simp[fP]
 | cons x l ih=>
  unfold fP
  split
  ·simp only[List.length_cons];omega
  ·split <;> simp
theorem EN.zero (n:Nat) (v:Int):EN ⟨[],v,0,[],[],[],0,[],0,0⟩ n:=⟨by simp,by simp,by simp,by simp,by simp,by simp⟩
theorem EN.step {a:AtR} {n:Nat} (h:EN a n) (S:Int) (e:Ev):EN (gu S a e) (n+1):=by
 obtain⟨h1,h2,h3,h4,h5,h6⟩:=h
 have:=DT a.read (e.at_ % S)
 refine⟨?_,?_,?_,?_,?_,?_⟩ <;> simp only[gu] <;> (try split) <;> (try simp only[List.length_append,List.length_cons,List.length_nil]) <;> omega
theorem yF (S th:Int):∀ r:List Ev,EN (bC S th r) r.length:=by
 intro r
 induction r with
 | nil=>exact EN.zero _ _
 | cons e r ih=>
  unfold bC
  split
  ·unfold eP kN
   split
   ·exact(EN.zero _ _).step S e
   ·exact ih.step S e
  ·exact⟨by have:=ih.L;simp;omega,by have:=ih.r;simp;omega,by have:=ih.l;simp;omega,by have:=ih.f;simp;omega,by have:=ih.s;simp;omega,by have:=ih.c;simp;omega⟩
theorem Q3 {w:World} {b:Nat} {c0 c1 c2 c3 c4 c5 c6 c7 c8 c9:Value} {t:TypeId} (h:aA w b #[c0,c1,c2,c3,c4,c5,c6,c7,c8,c9] t) (v0 v1 v2 v3 v4 v5 v6 v7 v8 v9:Value):
  aA ((((((((((w.setCell ⟨b,0,none⟩ v0).setCell ⟨b,1,none⟩ v1).setCell ⟨b,2,none⟩ v2).setCell ⟨b,3,none⟩ v3).setCell ⟨b,4,none⟩ v4).setCell ⟨b,5,none⟩ v5).setCell ⟨b,6,none⟩ v6).setCell ⟨b,7,none⟩ v7).setCell ⟨b,8,none⟩ v8).setCell ⟨b,9,none⟩ v9) b #[v0,v1,v2,v3,v4,v5,v6,v7,v8,v9] t:=by
 have:=(((((((((h.set 0 v0).set 1 v1).set 2 v2).set 3 v3).set 4 v4).set 5 v5).set 6 v6).set 7 v7).set 8 v8).set 9 v9
 simpa using this
theorem LU {w:World} {b:Nat} (v0 v1 v2 v3 v4 v5 v6 v7 v8 v9:Value):Turn [b] w ((((((((((w.setCell ⟨b,0,none⟩ v0).setCell ⟨b,1,none⟩ v1).setCell ⟨b,2,none⟩ v2).setCell ⟨b,3,none⟩ v3).setCell ⟨b,4,none⟩ v4).setCell ⟨b,5,none⟩ v5).setCell ⟨b,6,none⟩ v6).setCell ⟨b,7,none⟩ v7).setCell ⟨b,8,none⟩ v8).setCell ⟨b,9,none⟩ v9):=
 ((((((((((Turn.of_below (af w)).setCell (p:=⟨b,0,none⟩) (Or.inl (by simp)) v0).setCell (p:=⟨b,1,none⟩) (Or.inl (by simp)) v1).setCell (p:=⟨b,2,none⟩) (Or.inl (by simp)) v2).setCell (p:=⟨b,3,none⟩) (Or.inl (by simp)) v3).setCell (p:=⟨b,4,none⟩) (Or.inl (by simp)) v4).setCell (p:=⟨b,5,none⟩) (Or.inl (by simp)) v5).setCell (p:=⟨b,6,none⟩) (Or.inl (by simp)) v6).setCell (p:=⟨b,7,none⟩) (Or.inl (by simp)) v7).setCell (p:=⟨b,8,none⟩) (Or.inl (by simp)) v8).setCell (p:=⟨b,9,none⟩) (Or.inl (by simp)) v9
theorem Nb:(Tryd.prog.info? 49).map (fun i=>(i.zero,i.size,i.bytes))=some (some (.agg #[.int .u8 0,.int .i64 0,.int .i64 0,.int .i64 0,.int .i64 0,.int .i64 0,.int .u8 0]),7,56):=by kernel_rfl
def Ry (S th:Int) (r:List Ev) (w:World) (e:Ending) (w':World):Prop:=
 ∃ vL vr vl vf vs,e=.returned (.agg (kS (bC S th r) vL vr vl vf vs))∧Below w.heap.size w w'∧jF w' w.heap.size (bC S th r) vL vr vl vf vs
theorem Ql (l:List Ev):∀ u∈l.flatMap qM,u.oneCell'=true:=by
 intro u hu
 obtain⟨e,-,he⟩:=List.mem_flatMap.1 hu
 unfold qM at he
 simp only[List.mem_cons,List.not_mem_nil,or_false]at he
 rcases he with rfl | rfl | rfl | rfl | rfl | rfl | rfl <;> rfl
theorem kU {P:Program} {C:Code} {Q:Exit→Act→World→Prop} {A:Act} {w:World} (F:World→Prop) (h:F w) (k:∀ W,F W→C.wp P Q A W):C.wp P Q A w:=k w h
set_option maxRecDepth 100000 in
set_option maxHeartbeats 40000000 in
theorem D7 (a:Option Addr) (l:List Ev) (n cap:Nat) (th S:Int) (w:World) (hE:cO w a l) (hn:l.length=n) (hl:n≤1048576) (hS:1≤S∧S≤32) (hat:∀ e∈l,0≤e.at_):Calls Tryd.prog 55 #[.slice a n cap,.int .i64 th,.int .i64 S] w (Ry S th l.reverse w):=by
 subst hn
 obtain⟨i0,hi0,hz0,hz1,hz2⟩:=info_parts pR
 obtain⟨i7,Xx,hy0,hy1,hy2⟩:=info_parts Nb
 have HE:=hid hE
 have HL:=hid hl
 have HS:=hid hS
 have HAT:=hid hat
 clear hE hl hS hat
 go_enter Tryd.func55,Tryd.ntmps55
 go_wp2_with fail
 go_loopw [8] (fun i wr=>∃ (k:Nat) (vL vr vl vf vs:Value),k≤l.length∧i=.int .i64 (k:Int)∧Hid (OO wr (w.heap.size+1) (bC S th (l.take k).reverse) vL vr vl vf vs)∧Hid (aA wr w.heap.size (kS AtR.zero (.slice none 0 0) (.slice none 0 0) (.slice none 0 0) (.slice none 0 0) (.slice none 0 0)) 95)∧Hid (Below w.heap.size w wr)) (fun i _=>l.length-(intOf i).toNat)
 case atStart=>exact⟨0,_,_,_,_,_,Nat.zero_le _,rfl,hid ⟨aA.new' _ _ _ (by simp),jF.zero _ _ rfl rfl rfl rfl rfl⟩,hid ((aA.new _ _ _).alloc _),hid (ah (ah (af _) _) _)⟩
 case round=>
  obtain⟨k,vL,vr,vl,vf,vs,hk,rfl,HX,HZ,HB⟩:=hrel
  by_cases hlt:k < l.length
  ·have HT:=hid (pG hlt)
   have HN:=hid (yF S th (l.take k).reverse)
   obtain⟨b,o,rfl,hcell⟩:=HE.out.2 (by intro h;rw[h]at hlt;simp at hlt)
   have HA0:=hid (HAT.out l[k] (List.getElem_mem hlt))
   rcases iG:l[k]with⟨kind,iW,tx,at_,v,x,why⟩
   rw[iG]at HT HA0
   obtain⟨e0,e1,e2,e3,e4,e5,e6⟩:=cO.seven hcell HB.out hlt iG
   have j1:decide ((k:Int) < (l.length:Int))=true:=by rw[decide_eq_true_iff];omega
   have j2:(0:Int)≤(k:Int):=by omega
   have j3:IntKind.i64.wrap ((k:Int)+1)=(k:Int)+1:=IntWalk.i64_in _ (by have:=HL.out;omega)
   have j4:decide (k < l.length)=true:=by rw[decide_eq_true_iff];omega
   have hq:=aA.new wr #[.int .u8 kind,.int .i64 iW,.int .i64 tx,.int .i64 at_,.int .i64 v,.int .i64 x,.int .u8 why] 49
   have q0:=hq.cell 0 (v:=.int .u8 kind) rfl
   have q1:=hq.cell 1 (v:=.int .i64 iW) rfl
   have q4:=hq.cell 4 (v:=.int .i64 v) rfl
   have XG:=hid hq
   have HB1:=hid (ah HB.out (.cells #[.int .u8 kind,.int .i64 iW,.int .i64 tx,.int .i64 at_,.int .i64 v,.int .i64 x,.int .u8 why] 49))
   have CY:=hid (HX.out.below (ah (af _) (.cells #[.int .u8 kind,.int .i64 iW,.int .i64 tx,.int .i64 at_,.int .i64 v,.int .i64 x,.int .u8 why] 49)))
   have HZ1:=hid (HZ.out.alloc (.cells #[.int .u8 kind,.int .i64 iW,.int .i64 tx,.int .i64 at_,.int .i64 v,.int .i64 x,.int .u8 why] 49))
   have vM:=hid (show w.heap.size+1 < wr.heap.size from HX.out.k.lt)
   clear hcell iG hq HX HZ
   by_cases hth:iW=th
   case neg=>
    have n1:(iW !=th)=true:=by simpa using hth
    have HST:Hid (bC S th (l.take (k+1)).reverse=bC S th (l.take k).reverse):=hid (by rw[HT.out];exact IG hth)
    go_wp2_with fail
    go_roundw
    case rel=>exact⟨k+1,vL,vr,vl,vf,vs,hlt,by go_num,hid (by rw[HST.out];exact CY.out),HZ1,HB1⟩
    case measure=>simp[intOf];omega
   subst hth
   have HST:Hid (bC S iW (l.take (k+1)).reverse=eP S (bC S iW (l.take k).reverse) ⟨kind,iW,tx,at_,v,x,why⟩):=hid (by rw[HT.out];exact Cc rfl)
   generalize bC S iW (l.take k).reverse=at0 at*
   have bf:=hid hlt
   have UC:Hid ((l.take k).reverse.length≤1048576):=hid (by have:=HL.out;simp;omega)
   by_cases k1:kind=1
   ·subst k1
    have hk1:=CY.out.k
    have c0:=hk1.cell 0 (v:=vL) rfl
    have c1:=hk1.cell 1 (v:=.int .i64 at0.rv) rfl
    have c2:=hk1.cell 2 (v:=.int .i64 at0.wv) rfl
    have c3:=hk1.cell 3 (v:=vr) rfl
    have c4:=hk1.cell 4 (v:=vl) rfl
    have c5:=hk1.cell 5 (v:=vf) rfl
    have c6:=hk1.cell 6 (v:=.int .i64 at0.checked) rfl
    have c7:=hk1.cell 7 (v:=vs) rfl
    have c8:=hk1.cell 8 (v:=.int .u8 at0.why) rfl
    have c9:=hk1.cell 9 (v:=.int .u8 at0.last) rfl
    have f0:=hk1.free 0
    have f1:=hk1.free 1
    have f2:=hk1.free 2
    have f3:=hk1.free 3
    have f4:=hk1.free 4
    have f5:=hk1.free 5
    have f6:=hk1.free 6
    have f7:=hk1.free 7
    have f8:=hk1.free 8
    have f9:=hk1.free 9
    go_wp2_with fail
    refine kU (fun W=>OO W (w.heap.size+1) ⟨[],v,0,[],[],[],0,[],0,0⟩ (.slice none 0 0) (.slice none 0 0) (.slice none 0 0) (.slice none 0 0) (.slice none 0 0)∧aA W wr.heap.size #[.int .u8 1,.int .i64 iW,.int .i64 tx,.int .i64 at_,.int .i64 v,.int .i64 x,.int .u8 why] 49∧aA W w.heap.size (kS AtR.zero (.slice none 0 0) (.slice none 0 0) (.slice none 0 0) (.slice none 0 0) (.slice none 0 0)) 95∧Below w.heap.size w W∧wr.heap.size < W.heap.size) ?_ ?_
    ·have hT:=LU (w:=wr.alloc (.cells #[.int .u8 1,.int .i64 iW,.int .i64 tx,.int .i64 at_,.int .i64 v,.int .i64 x,.int .u8 why] 49)) (b:=w.heap.size+1) (.slice none 0 0) (.int .i64 v) (.int .i64 0) (.slice none 0 0) (.slice none 0 0) (.slice none 0 0) (.int .i64 0) (.slice none 0 0) (.int .u8 0) (.int .u8 0)
     have hw0:=vM.out
     exact⟨⟨Q3 hk1 _ _ _ _ _ _ _ _ _ _,jF.zero _ _ rfl rfl rfl rfl rfl⟩,hT.blk (by simp;omega) XG.out,hT.blk (by simp) HZ1.out,HB1.out.trans (hT.below (by simp) (by have:=HB1.out.size;omega)),by have:=hT.size;simp only[World.size_alloc]at this;omega⟩
    rintro W ⟨hX,hQ,hZ,hB,hs⟩
    have qJ:=hid hX.k
    have HRW:=hid hX.r
    have KZ:Hid (bU W (w.heap.size+1+1) 49 7 (.slice none 0 0) 0 []):=hid hX.r.rL
    have ER:=hid hQ
    have Ig:=hid hZ
    have jM:=hid hB
    have EP:=hid hs
    have mV:Hid ((0:Nat)≤1048576):=hid (by decide)
    clear hX hQ hZ hB hs hk1 c0 c1 c2 c3 c4 c5 c6 c7 c8 c9 f0 f1 f2 f3 f4 f5 f6 f7 f8 f9 CY XG HZ1 HB1
    apply eX (w.heap.size+1) 0 49 7 (kS ⟨[],v,0,[],[],[],0,[],0,0⟩ (.slice none 0 0) (.slice none 0 0) (.slice none 0 0) (.slice none 0 0) (.slice none 0 0)) 95 0 [] [.int .u8 1,.int .i64 iW,.int .i64 tx,.int .i64 at_,.int .i64 v,.int .i64 x,.int .u8 why] [1,2,4,7] (fun i=>if i=1 then .pointer (some ⟨(w.heap.size+1),0,none⟩)else if i=2 then .slice none 0 0 else if i=4 then .agg #[.int .u8 1,.int .i64 iW,.int .i64 tx,.int .i64 at_,.int .i64 v,.int .i64 x,.int .u8 why]else .pointer (some ⟨(w.heap.size+1),0,none⟩)) 0 3 5 6 8
    case hp=>exact⟨by decide,by decide,by decide⟩
    focus (intro vals;simp[ay,aB,Act.put];rfl)
    case hm=>kernel_rfl
    case hd=>kernel_rfl
    case hb=>kernel_rfl
    case iR=>kernel_rfl
    case hsz=>kernel_rfl
    case h12=>kernel_rfl
    case hstep=>
     refine⟨?_,?_,?_,?_,?_,?_,?_,?_,?_,trivial⟩
     all_goals (
      intro l1 vz w' hi hd hJ
      refine⟨(fun g b h=>by cases h),fun _ ρ h1 h2 h3 h4 h5=>?_⟩
      have HQ:=hid hJ
      clear hJ)
     ·have hlow:=HQ.out.low (HQ.out.not (by omega) hi)
      clear h4 h5
      unfold aO
      go_simp
      exact HQ.out.put ⟨by decide,by decide,by decide⟩ 0 (by decide) hi (ah (af _) _) (fun h=>absurd h (by decide)) (fun _=>⟨_,rfl,World.ownsRow_made w' #[] 0 hlow.size (by decide) rfl⟩) (fun h=>absurd h (by decide)) (fun h=>absurd h (by decide))
     ·have f7:=h5 7 (by kernel_rfl)
      clear h4 h5
      unfold aO
      go_simp
      exact HQ.out.put ⟨by decide,by decide,by decide⟩ 1 (by decide) hi (af _) (fun _=>rfl) (fun h=>absurd h (by decide)) (fun h=>absurd h (by decide)) (fun h=>absurd h (by decide))
     ·have hlow:=HQ.out.low (HQ.out.not (by omega) hi)
      have c:=(qJ.out.below hlow).cell 0 (v:=.slice none 0 0) rfl
      have f31:ρ (.tmp 31)=(.pointer (some ⟨(w.heap.size+1),0,none⟩)):=(h4 1 31 (by kernel_rfl) (by kernel_rfl)).trans (HQ.out.kn 1 (by decide) (hd 1 (by kernel_rfl)))
      clear h4 h5
      unfold aO
      go_simp
      exact HQ.out.put ⟨by decide,by decide,by decide⟩ 2 (by decide) hi (af _) (fun _=>rfl) (fun h=>absurd h (by decide)) (fun h=>absurd h (by decide)) (fun h=>absurd h (by decide))
     ·have hlow:=HQ.out.low (HQ.out.not (by omega) hi)
      obtain⟨g1,hv1,hown⟩:=HQ.out.e1 (hd 0 (by kernel_rfl)) hi
      have f1:=(h4 0 30 (by kernel_rfl) (by kernel_rfl)).trans hv1
      have f4:ρ (.tmp 32)=(.slice none 0 0):=(h4 2 32 (by kernel_rfl) (by kernel_rfl)).trans (HQ.out.kn 2 (by decide) (hd 2 (by kernel_rfl)))
      rw[hv1]at hown
      obtain⟨v',w'',hrun,hb',hown'⟩:=lG w' W.heap.size 22 22 49 i7 _ 7 56 Tryd.underlying22 Xx hy0 hy1 hy2 rfl (by decide) ⟨g1,0,none⟩ hown (.slice none 0 0) _ _ (KZ.out.old hlow) (by intro u hu;cases hu) (by have:=mV.out;unfold maxLen;omega) (by have:=mV.out;omega) hlow.size
      refine bW rfl f1 f4 hrun ?_
      exact HQ.out.put ⟨by decide,by decide,by decide⟩ 3 (by decide) hi hb' (fun h=>absurd h (by decide)) (fun h=>absurd h (by decide)) (fun _=>hown') (fun h=>absurd h (by decide))
     ·have hlow:=HQ.out.low (HQ.out.not (by omega) hi)
      have hq:=ER.out.below hlow
      have c0:=hq.cell 0 rfl
      have c1:=hq.cell 1 rfl
      have c2:=hq.cell 2 rfl
      have c3:=hq.cell 3 rfl
      have c4:=hq.cell 4 rfl
      have c5:=hq.cell 5 rfl
      have c6:=hq.cell 6 rfl
      clear hq
      have f9:=h5 9 (by kernel_rfl)
      clear h4 h5
      unfold aO
      go_simp
      exact HQ.out.put ⟨by decide,by decide,by decide⟩ 4 (by decide) hi (af _) (fun _=>rfl) (fun h=>absurd h (by decide)) (fun h=>absurd h (by decide)) (fun h=>absurd h (by decide))
     ·have f34:ρ (.tmp 34)=(.agg #[.int .u8 1,.int .i64 iW,.int .i64 tx,.int .i64 at_,.int .i64 v,.int .i64 x,.int .u8 why]):=(h4 4 34 (by kernel_rfl) (by kernel_rfl)).trans (HQ.out.kn 4 (by decide) (hd 4 (by kernel_rfl)))
      clear h4 h5
      unfold aO
      go_simp
      exact HQ.out.put ⟨by decide,by decide,by decide⟩ 5 (by decide) hi (ah (af _) _) (fun h=>absurd h (by decide)) (fun h=>absurd h (by decide)) (fun h=>absurd h (by decide)) (fun _=>⟨_,rfl,fun j u hu=>(aA.new _ _ _).cell j (by simpa using hu)⟩)
     ·have hlow:=HQ.out.low (HQ.out.not (by omega) hi)
      obtain⟨g8,Gu,c8⟩:=HQ.out.e8 (hd 5 (by kernel_rfl)) hi
      have e5:=HQ.out.e5 (hd 3 (by kernel_rfl)) hi
      have f5:ρ (.tmp 33)=vz 3:=h4 3 33 (by kernel_rfl) (by kernel_rfl)
      have f8:=(h4 5 35 (by kernel_rfl) (by kernel_rfl)).trans Gu
      obtain⟨v',w'',hrun,hown',hg,-,-⟩:=run_append_own_at w' W.heap.size 22 22 49 i7 _ 7 56 Tryd.underlying22 Xx hy0 hy1 hy2 rfl (by decide) (vz 3) _ _ e5 ⟨g8,0,none⟩ 1 1 [.int .u8 1,.int .i64 iW,.int .i64 tx,.int .i64 at_,.int .i64 v,.int .i64 x,.int .u8 why] rfl (fun j u hu=>by rw[add0];exact c8 j u hu) (by intro u hu;simp at hu;rcases hu with rfl | rfl | rfl | rfl | rfl | rfl | rfl <;> rfl) (by have:=mV.out;unfold maxLen;omega) (by have:=mV.out;omega) hlow.size
      refine bW rfl f5 f8 hrun ?_
      exact HQ.out.DU ⟨by decide,by decide,by decide⟩ hi (hd 3 (by kernel_rfl)) hg hown'
     ·have f7:=h5 7 (by kernel_rfl)
      clear h4 h5
      unfold aO
      go_simp
      exact HQ.out.put ⟨by decide,by decide,by decide⟩ 7 (by decide) hi (af _) (fun _=>rfl) (fun h=>absurd h (by decide)) (fun h=>absurd h (by decide)) (fun h=>absurd h (by decide))
     ·have hlow:=HQ.out.low hi
      have hq:=qJ.out.below hlow
      have c:=hq.cell 0 (v:=.slice none 0 0) rfl
      have z:=hq.free 0
      clear hq
      have f10:ρ (.tmp 37)=(.pointer (some ⟨(w.heap.size+1),0,none⟩)):=(h4 7 37 (by kernel_rfl) (by kernel_rfl)).trans (HQ.out.kn 7 (by decide) (hd 7 (by kernel_rfl)))
      obtain⟨g9,c9,ug⟩:=fA (HQ.out.e9 (hd 6 (by kernel_rfl)) hi)
      have f9:=(h4 6 36 (by kernel_rfl) (by kernel_rfl)).trans ug
      have Ii:=hid ug
      clear ug
      have hall:∀ i,i < 8→l1 i=true:=fun i hi=>by
       rcases i with _ | _ | _ | _ | _ | _ | _ | _ | i
       ·exact hd 0 (by kernel_rfl)
       ·exact hd 1 (by kernel_rfl)
       ·exact hd 2 (by kernel_rfl)
       ·exact hd 3 (by kernel_rfl)
       ·exact hd 4 (by kernel_rfl)
       ·exact hd 5 (by kernel_rfl)
       ·exact hd 6 (by kernel_rfl)
       ·exact hd 7 (by kernel_rfl)
       ·omega
      have uB:=hid hall
      clear hall h4 h5
      unfold aO
      go_simp
      have h:=HQ.out.DN ⟨by decide,by decide,by decide⟩ qJ.out hi uB.out
      rw[Ii.out]at h
      exact h
    case hdone=>
     rintro vals W9 ⟨v9,yV,NL,NH⟩
     have uD:Hid (aA W9 (w.heap.size+1) (kS ⟨[⟨1,iW,tx,at_,v,x,why⟩],v,0,[],[],[],0,[],0,0⟩ v9 (.slice none 0 0) (.slice none 0 0) (.slice none 0 0) (.slice none 0 0)) 95):=hid (by simpa[kS]using NL)
     have oV:Hid (jF W9 (w.heap.size+1+1) ⟨[⟨1,iW,tx,at_,v,x,why⟩],v,0,[],[],[],0,[],0,0⟩ v9 (.slice none 0 0) (.slice none 0 0) (.slice none 0 0) (.slice none 0 0)):=hid (by
      have h:=(HRW.out.turn yV (by omega))
      exact⟨by have:=NH.wider (base':=w.heap.size+1+1) (by have:=EP.out;have:=vM.out;omega);simpa[qM]using this,h.rr,h.rl,h.rf,h.rs⟩)
     have zZ:=hid (yV.blk (by have:=vM.out;simp;omega) ER.out)
     have Fg:=hid (yV.blk (by simp) Ig.out)
     have Bq:=hid (jM.out.trans (yV.below (by simp) (by have:=jM.out.size;omega)))
     have Ou:Hid (wr.heap.size < W9.heap.size):=hid (by have:=yV.size;have:=EP.out;omega)
     clear yV NL NH qJ HRW KZ ER Ig jM EP mV
     have c9:=uD.out.cell 9 (v:=.int .u8 0) rfl
     have f9:=uD.out.free 9
     have q0:=zZ.out.cell 0 (v:=.int .u8 1) rfl
     have qE:Hid (bC S iW (l.take (k+1)).reverse=⟨[⟨1,iW,tx,at_,v,x,why⟩],v,0,[],[],[],0,[],0,1⟩):=hid (by rw[HST.out];simp[eP,gu,kN])
     go_wp2_with fail
     go_roundw
     case rel=>exact⟨k+1,_,_,_,_,_,bf.out,by go_num,hid (by rw[qE.out];exact⟨by simpa[kS]using uD.out.set 9 (.int .u8 1),⟨(oV.out.set 9 _ (by omega)).rL,(oV.out.set 9 _ (by omega)).rr,(oV.out.set 9 _ (by omega)).rl,(oV.out.set 9 _ (by omega)).rf,(oV.out.set 9 _ (by omega)).rs⟩⟩),hid (Fg.out.aC _ _ (by simp)),hid (Bq.out.setCell (by simp) _)⟩
     case measure=>simp[intOf];have:=bf.out;omega
   ·have n1:(kind==1)=false:=by simpa using k1
    have uF:=hid k1
    clear k1
    go_wp2_with fail
    refine kU (fun W=>OO W (w.heap.size+1) at0 vL vr vl vf vs∧aA W wr.heap.size #[.int .u8 kind,.int .i64 iW,.int .i64 tx,.int .i64 at_,.int .i64 v,.int .i64 x,.int .u8 why] 49∧aA W w.heap.size (kS AtR.zero (.slice none 0 0) (.slice none 0 0) (.slice none 0 0) (.slice none 0 0) (.slice none 0 0)) 95∧Below w.heap.size w W∧wr.heap.size < W.heap.size) ?_ ?_
    ·exact⟨CY.out,XG.out,HZ1.out,HB1.out,by simp⟩
    rintro W ⟨hX,hQ,hZ,hB,hs⟩
    have qJ:=hid hX.k
    have HRW:=hid hX.r
    have KZ:=hid hX.r.rL
    have ER:=hid hQ
    have Ig:=hid hZ
    have jM:=hid hB
    have EP:=hid hs
    have mV:Hid (at0.L.length≤1048576):=hid (by have:=HN.out.L;have:=UC.out;omega)
    clear hX hQ hZ hB hs CY XG HZ1 HB1
    apply eX (w.heap.size+1) 0 49 7 (kS at0 vL vr vl vf vs) 95 at0.L.length (at0.L.flatMap qM) [.int .u8 kind,.int .i64 iW,.int .i64 tx,.int .i64 at_,.int .i64 v,.int .i64 x,.int .u8 why] [1,2,4,7] (fun i=>if i=1 then .pointer (some ⟨(w.heap.size+1),0,none⟩)else if i=2 then vL else if i=4 then .agg #[.int .u8 kind,.int .i64 iW,.int .i64 tx,.int .i64 at_,.int .i64 v,.int .i64 x,.int .u8 why]else .pointer (some ⟨(w.heap.size+1),0,none⟩)) 0 3 5 6 8
    case hp=>exact⟨by decide,by decide,by decide⟩
    focus (intro vals;simp[ay,aB,Act.put];rfl)
    case hm=>kernel_rfl
    case hd=>kernel_rfl
    case hb=>kernel_rfl
    case iR=>kernel_rfl
    case hsz=>kernel_rfl
    case h12=>kernel_rfl
    case hstep=>
     refine⟨?_,?_,?_,?_,?_,?_,?_,?_,?_,trivial⟩
     all_goals (
      intro l1 vz w' hi hd hJ
      refine⟨(fun g b h=>by cases h),fun _ ρ h1 h2 h3 h4 h5=>?_⟩
      have HQ:=hid hJ
      clear hJ)
     ·have hlow:=HQ.out.low (HQ.out.not (by omega) hi)
      clear h4 h5
      unfold aO
      go_simp
      exact HQ.out.put ⟨by decide,by decide,by decide⟩ 0 (by decide) hi (ah (af _) _) (fun h=>absurd h (by decide)) (fun _=>⟨_,rfl,World.ownsRow_made w' #[] 0 hlow.size (by decide) rfl⟩) (fun h=>absurd h (by decide)) (fun h=>absurd h (by decide))
     ·have f7:=h5 7 (by kernel_rfl)
      clear h4 h5
      unfold aO
      go_simp
      exact HQ.out.put ⟨by decide,by decide,by decide⟩ 1 (by decide) hi (af _) (fun _=>rfl) (fun h=>absurd h (by decide)) (fun h=>absurd h (by decide)) (fun h=>absurd h (by decide))
     ·have hlow:=HQ.out.low (HQ.out.not (by omega) hi)
      have c:=(qJ.out.below hlow).cell 0 (v:=vL) rfl
      have f31:ρ (.tmp 31)=(.pointer (some ⟨(w.heap.size+1),0,none⟩)):=(h4 1 31 (by kernel_rfl) (by kernel_rfl)).trans (HQ.out.kn 1 (by decide) (hd 1 (by kernel_rfl)))
      clear h4 h5
      unfold aO
      go_simp
      exact HQ.out.put ⟨by decide,by decide,by decide⟩ 2 (by decide) hi (af _) (fun _=>rfl) (fun h=>absurd h (by decide)) (fun h=>absurd h (by decide)) (fun h=>absurd h (by decide))
     ·have hlow:=HQ.out.low (HQ.out.not (by omega) hi)
      obtain⟨g1,hv1,hown⟩:=HQ.out.e1 (hd 0 (by kernel_rfl)) hi
      have f1:=(h4 0 30 (by kernel_rfl) (by kernel_rfl)).trans hv1
      have f4:ρ (.tmp 32)=(vL):=(h4 2 32 (by kernel_rfl) (by kernel_rfl)).trans (HQ.out.kn 2 (by decide) (hd 2 (by kernel_rfl)))
      rw[hv1]at hown
      obtain⟨v',w'',hrun,hb',hown'⟩:=lG w' W.heap.size 22 22 49 i7 _ 7 56 Tryd.underlying22 Xx hy0 hy1 hy2 rfl (by decide) ⟨g1,0,none⟩ hown (vL) _ _ (KZ.out.old hlow) (Ql _) (by have:=mV.out;unfold maxLen;omega) (by have:=mV.out;omega) hlow.size
      refine bW rfl f1 f4 hrun ?_
      exact HQ.out.put ⟨by decide,by decide,by decide⟩ 3 (by decide) hi hb' (fun h=>absurd h (by decide)) (fun h=>absurd h (by decide)) (fun _=>hown') (fun h=>absurd h (by decide))
     ·have hlow:=HQ.out.low (HQ.out.not (by omega) hi)
      have hq:=ER.out.below hlow
      have c0:=hq.cell 0 rfl
      have c1:=hq.cell 1 rfl
      have c2:=hq.cell 2 rfl
      have c3:=hq.cell 3 rfl
      have c4:=hq.cell 4 rfl
      have c5:=hq.cell 5 rfl
      have c6:=hq.cell 6 rfl
      clear hq
      have f9:=h5 9 (by kernel_rfl)
      clear h4 h5
      unfold aO
      go_simp
      exact HQ.out.put ⟨by decide,by decide,by decide⟩ 4 (by decide) hi (af _) (fun _=>rfl) (fun h=>absurd h (by decide)) (fun h=>absurd h (by decide)) (fun h=>absurd h (by decide))
     ·have f34:ρ (.tmp 34)=(.agg #[.int .u8 kind,.int .i64 iW,.int .i64 tx,.int .i64 at_,.int .i64 v,.int .i64 x,.int .u8 why]):=(h4 4 34 (by kernel_rfl) (by kernel_rfl)).trans (HQ.out.kn 4 (by decide) (hd 4 (by kernel_rfl)))
      clear h4 h5
      unfold aO
      go_simp
      exact HQ.out.put ⟨by decide,by decide,by decide⟩ 5 (by decide) hi (ah (af _) _) (fun h=>absurd h (by decide)) (fun h=>absurd h (by decide)) (fun h=>absurd h (by decide)) (fun _=>⟨_,rfl,fun j u hu=>(aA.new _ _ _).cell j (by simpa using hu)⟩)
     ·have hlow:=HQ.out.low (HQ.out.not (by omega) hi)
      obtain⟨g8,Gu,c8⟩:=HQ.out.e8 (hd 5 (by kernel_rfl)) hi
      have e5:=HQ.out.e5 (hd 3 (by kernel_rfl)) hi
      have f5:ρ (.tmp 33)=vz 3:=h4 3 33 (by kernel_rfl) (by kernel_rfl)
      have f8:=(h4 5 35 (by kernel_rfl) (by kernel_rfl)).trans Gu
      obtain⟨v',w'',hrun,hown',hg,-,-⟩:=run_append_own_at w' W.heap.size 22 22 49 i7 _ 7 56 Tryd.underlying22 Xx hy0 hy1 hy2 rfl (by decide) (vz 3) _ _ e5 ⟨g8,0,none⟩ 1 1 [.int .u8 kind,.int .i64 iW,.int .i64 tx,.int .i64 at_,.int .i64 v,.int .i64 x,.int .u8 why] rfl (fun j u hu=>by rw[add0];exact c8 j u hu) (by intro u hu;simp at hu;rcases hu with rfl | rfl | rfl | rfl | rfl | rfl | rfl <;> rfl) (by have:=mV.out;unfold maxLen;omega) (by have:=mV.out;omega) hlow.size
      refine bW rfl f5 f8 hrun ?_
      exact HQ.out.DU ⟨by decide,by decide,by decide⟩ hi (hd 3 (by kernel_rfl)) hg hown'
     ·have f7:=h5 7 (by kernel_rfl)
      clear h4 h5
      unfold aO
      go_simp
      exact HQ.out.put ⟨by decide,by decide,by decide⟩ 7 (by decide) hi (af _) (fun _=>rfl) (fun h=>absurd h (by decide)) (fun h=>absurd h (by decide)) (fun h=>absurd h (by decide))
     ·have hlow:=HQ.out.low hi
      have hq:=qJ.out.below hlow
      have c:=hq.cell 0 (v:=vL) rfl
      have z:=hq.free 0
      clear hq
      have f10:ρ (.tmp 37)=(.pointer (some ⟨(w.heap.size+1),0,none⟩)):=(h4 7 37 (by kernel_rfl) (by kernel_rfl)).trans (HQ.out.kn 7 (by decide) (hd 7 (by kernel_rfl)))
      obtain⟨g9,c9,ug⟩:=fA (HQ.out.e9 (hd 6 (by kernel_rfl)) hi)
      have f9:=(h4 6 36 (by kernel_rfl) (by kernel_rfl)).trans ug
      have Ii:=hid ug
      clear ug
      have hall:∀ i,i < 8→l1 i=true:=fun i hi=>by
       rcases i with _ | _ | _ | _ | _ | _ | _ | _ | i
       ·exact hd 0 (by kernel_rfl)
       ·exact hd 1 (by kernel_rfl)
       ·exact hd 2 (by kernel_rfl)
       ·exact hd 3 (by kernel_rfl)
       ·exact hd 4 (by kernel_rfl)
       ·exact hd 5 (by kernel_rfl)
       ·exact hd 6 (by kernel_rfl)
       ·exact hd 7 (by kernel_rfl)
       ·omega
      have uB:=hid hall
      clear hall h4 h5
      unfold aO
      go_simp
      have h:=HQ.out.DN ⟨by decide,by decide,by decide⟩ qJ.out hi uB.out
      rw[Ii.out]at h
      exact h
    case hdone=>
     rintro vals W9 ⟨v9,yV,NL,NH⟩
     have uD:Hid (aA W9 (w.heap.size+1) (kS { at0 with L:=at0.L++[⟨kind,iW,tx,at_,v,x,why⟩] } v9 vr vl vf vs) 95):=hid (by simpa[kS]using NL)
     have oV:Hid (jF W9 (w.heap.size+1+1) { at0 with L:=at0.L++[⟨kind,iW,tx,at_,v,x,why⟩] } v9 vr vl vf vs):=hid (by
      have h:=(HRW.out.turn yV (by omega))
      exact⟨by have:=NH.wider (base':=w.heap.size+1+1) (by have:=EP.out;have:=vM.out;omega);simpa[qM]using this,h.rr,h.rl,h.rf,h.rs⟩)
     have zZ:=hid (yV.blk (by have:=vM.out;simp;omega) ER.out)
     have Fg:=hid (yV.blk (by simp) Ig.out)
     have Bq:=hid (jM.out.trans (yV.below (by simp) (by have:=jM.out.size;omega)))
     have Ou:Hid (wr.heap.size < W9.heap.size):=hid (by have:=yV.size;have:=EP.out;omega)
     clear yV NL NH qJ HRW KZ ER Ig jM EP mV
     have c9:=uD.out.cell 9 (v:=.int .u8 at0.last) rfl
     have f9:=uD.out.free 9
     have q0:=zZ.out.cell 0 (v:=.int .u8 kind) rfl
     by_cases k3:kind=3
     ·subst k3
      have qE:Hid (bC S iW (l.take (k+1)).reverse={ at0 with L:=at0.L++[⟨3,iW,tx,at_,v,x,why⟩],last:=3,read:=fP at0.read (at_ % S) }):=hid (by rw[HST.out];simp[eP,gu,kN])
      go_wp2_with fail
      refine kU (fun W=>OO W (w.heap.size+1) { at0 with L:=at0.L++[⟨3,iW,tx,at_,v,x,why⟩],last:=3 } v9 vr vl vf vs∧aA W wr.heap.size #[.int .u8 3,.int .i64 iW,.int .i64 tx,.int .i64 at_,.int .i64 v,.int .i64 x,.int .u8 why] 49∧aA W w.heap.size (kS AtR.zero (.slice none 0 0) (.slice none 0 0) (.slice none 0 0) (.slice none 0 0) (.slice none 0 0)) 95∧Below w.heap.size w W∧wr.heap.size < W.heap.size) ?_ ?_
      ·exact⟨⟨by simpa[kS]using uD.out.set 9 (.int .u8 3),⟨(oV.out.set 9 _ (by omega)).rL,(oV.out.set 9 _ (by omega)).rr,(oV.out.set 9 _ (by omega)).rl,(oV.out.set 9 _ (by omega)).rf,(oV.out.set 9 _ (by omega)).rs⟩⟩,zZ.out.aC _ _ (by have:=vM.out;simp;omega),Fg.out.aC _ _ (by simp),Bq.out.setCell (by simp) _,by simpa using Ou.out⟩
      rintro W ⟨hX,hQ,hZ,hB,hs⟩
      have qJ:=hid hX.k
      have HRW:=hid hX.r
      have ER:=hid hQ
      have Ig:=hid hZ
      have jM:=hid hB
      have EP:=hid hs
      clear hX hQ hZ hB hs uD oV zZ Fg Bq Ou c9 f9 q0
      have Uk:Hid (at_.tmod S=at_ % S):=hid (Int.tmod_eq_emod_of_nonneg HA0.out)
      have U5:Hid (¬ S=0):=hid (by have:=HS.out;omega)
      have Zy:Hid (∀ W',Below W.heap.size W W'→Calls Tryd.prog 63 #[vr,.int .i64 (at_ % S)] W' fun e w2=>∃ y,e=.returned y∧Below W'.heap.size W' w2∧bU w2 (w.heap.size+1+1) 3 1 y (fP at0.read (at_ % S)).length (fG (fP at0.read (at_ % S)))):=hid (fun W' hW'=>BK at0.read (at_ % S) (w.heap.size+1+1) vr W' (HRW.out.rr.old hW') (by have:=HN.out.r;have:=UC.out;omega) (by have:=hW'.size;have:=EP.out;have:=vM.out;omega))
      apply xX 7 (fun i y w'=>if i=6 then bU w' (w.heap.size+1+1) 3 1 y (fP at0.read (at_ % S)).length (fG (fP at0.read (at_ % S)))else y=([.pointer (some ⟨w.heap.size+1,3,none⟩),vr,.pointer (some ⟨wr.heap.size,3,none⟩),.int .i64 at_,.int .i64 S,.int .i64 (at_ % S)]:List Value).getD i undef) (fun w'=>Below W.heap.size W w') (fun w1 w2=>Below w1.heap.size w1 w2) (fun i vs w'=>if i=9 then ∃ w1 y,w'=w1.setCell ⟨w.heap.size+1,3,none⟩ y∧Below W.heap.size W w1∧bU w1 (w.heap.size+1+1) 3 1 y (fP at0.read (at_ % S)).length (fG (fP at0.read (at_ % S)))else Below W.heap.size W w'∧bU w' (w.heap.size+1+1) 3 1 (vs 6) (fP at0.read (at_ % S)).length (fG (fP at0.read (at_ % S)))∧(i=8→vs 7=.pointer (some ⟨w.heap.size+1,3,none⟩)))
      focus (intro vals;simp[ay,aB,Act.put,List.getD];rfl)
      case hm=>kernel_rfl
      case hd=>kernel_rfl
      case hb=>kernel_rfl
      case iR=>kernel_rfl
      case hsz=>kernel_rfl
      case hN=>rfl
      case htail=>kernel_rfl
      case rM=>
       intro i x w1 w2 h hb
       by_cases h6:i=6
       ·simp only[h6,if_true]at h⊢;exact h.old hb
       ·simp only[h6,if_false]at h⊢;exact h
      case h0=>exact aj (af _)
      case hstart=>exact fun vs w' hG hV=>⟨hG,hV 6 (by omega),fun h=>by omega⟩
      case Nj=>
       refine⟨?_,?_,?_,?_,?_,?_,?_,trivial⟩
       all_goals (
        refine⟨(fun g b h=>by cases h),fun w' hG hg ρ h1 h2 h3 h4 h5=>?_⟩
        have hG:=hid hG)
       ·have f7:=h5 7 (by kernel_rfl)
        clear h4 h5
        unfold aO
        go_simp
        exact⟨rfl,hG.out,af _⟩
       ·have f45:ρ (.tmp 45)=.pointer (some ⟨w.heap.size+1,3,none⟩):=h4 0 45 (by kernel_rfl) (by kernel_rfl)
        have c:=(qJ.out.below hG.out).cell 3 (v:=vr) rfl
        clear h4 h5
        unfold aO
        go_simp
        exact⟨rfl,hG.out,af _⟩
       ·have f9:=h5 9 (by kernel_rfl)
        clear h4 h5
        unfold aO
        go_simp
        exact⟨rfl,hG.out,af _⟩
       ·have f47:ρ (.tmp 47)=.pointer (some ⟨wr.heap.size,3,none⟩):=h4 2 47 (by kernel_rfl) (by kernel_rfl)
        have hq:=ER.out.below hG.out
        have c:=hq.cell 3 (v:=.int .i64 at_) rfl
        clear hq
        clear h4 h5
        unfold aO
        go_simp
        exact⟨rfl,hG.out,af _⟩
       ·have f2:ρ (.tmp 2)=.int .i64 S:=h5 2 (by kernel_rfl)
        clear h4 h5
        unfold aO
        go_simp
        exact⟨rfl,hG.out,af _⟩
       ·have f48:ρ (.tmp 48)=.int .i64 at_:=h4 3 48 (by kernel_rfl) (by kernel_rfl)
        have f49:ρ (.tmp 49)=.int .i64 S:=h4 4 49 (by kernel_rfl) (by kernel_rfl)
        have j1:=Uk.out
        have j2:=U5.out
        clear h4 h5
        unfold aO
        go_simp
        exact⟨rfl,hG.out,af _⟩
       ·have f46:ρ (.tmp 46)=vr:=h4 1 46 (by kernel_rfl) (by kernel_rfl)
        have f50:ρ (.tmp 50)=.int .i64 (at_ % S):=h4 5 50 (by kernel_rfl) (by kernel_rfl)
        clear h4 h5
        unfold aO
        go_simp
        unfold xE
        refine(Zy.out _ hG.out).mono ?_
        rintro e' w2 ⟨y,rfl,hb2,hr⟩
        exact⟨_,rfl,hr,ag hG.out hb2,hb2⟩
      case Nh=>
       refine⟨?_,?_,trivial⟩
       ·refine⟨rfl,fun vs w' hS ρ h1 h2 h3 h4 h5=>?_⟩
        obtain⟨hG,hr,-⟩:=hS
        have f7:=h5 7 (by kernel_rfl) (by kernel_rfl)
        have hG:=hid hG
        have hr:=hid hr
        clear h4 h5
        unfold aO
        go_simp
        exact⟨hG.out,by simpa[bQ]using hr.out,by simp[bQ]⟩
       ·refine⟨rfl,fun vs w' hS ρ h1 h2 h3 h4 h5=>?_⟩
        obtain⟨hG,hr,hv7⟩:=hS
        have f52:ρ (.tmp 52)=.pointer (some ⟨w.heap.size+1,3,none⟩):=(h4 7 52 (by kernel_rfl) (by kernel_rfl)).trans (hv7 rfl)
        have f51:ρ (.tmp 51)=vs 6:=h4 6 51 (by kernel_rfl) (by kernel_rfl)
        obtain⟨p5,c5,e5⟩:=hr.shape
        rw[e5]at f51 hr
        have s1:=(qJ.out.below hG).cell 3 (v:=vr) rfl
        have s2:=(qJ.out.below hG).free 3
        have hG:=hid hG
        have hr:=hid hr
        clear h4 h5 hv7 e5
        unfold aO
        go_simp
        exact⟨w',_,rfl,hG.out,hr.out⟩
      case hdone=>
       rintro vals W3 ⟨w1,y,rfl,hb1,hr1⟩
       have hk:=(qJ.out.below hb1).set 3 y
       have hr:=(HRW.out.below hb1).set (B:=w.heap.size+1) 3 y (by omega)
       have hy:=hr1.turn ((Turn.of_below (af w1)).setCell (p:=⟨w.heap.size+1,3,none⟩) (Or.inl (by simp)) y) (l:=[w.heap.size+1]) (by intro q hq;rw[List.mem_singleton.1 hq];omega)
       have QT:=hid hk
       have vG:=hid hr
       have QF:=hid hy
       have QE:=hid ((Ig.out.below hb1).aC ⟨w.heap.size+1,3,none⟩ y (by simp))
       have sW:=hid ((ag jM.out hb1).setCell (p:=⟨w.heap.size+1,3,none⟩) (by simp) y)
       clear hk hr hy hb1 hr1
       go_wp2_with fail
       go_roundw
       case rel=>exact⟨k+1,_,_,_,_,_,bf.out,by go_num,hid (by rw[qE.out];exact⟨by simpa[kS]using QT.out,⟨vG.out.rL,QF.out,vG.out.rl,vG.out.rf,vG.out.rs⟩⟩),QE,sW⟩
       case measure=>simp[intOf];have:=bf.out;omega
     by_cases k4:kind=4
     ·subst k4
      have qE:Hid (bC S iW (l.take (k+1)).reverse={ at0 with L:=at0.L++[⟨4,iW,tx,at_,v,x,why⟩],last:=4,locked:=at0.locked++[at_] }):=hid (by rw[HST.out];simp[eP,gu,kN])
      go_wp2_with fail
      refine kU (fun W=>OO W (w.heap.size+1) { at0 with L:=at0.L++[⟨4,iW,tx,at_,v,x,why⟩],last:=4 } v9 vr vl vf vs∧aA W wr.heap.size #[.int .u8 4,.int .i64 iW,.int .i64 tx,.int .i64 at_,.int .i64 v,.int .i64 x,.int .u8 why] 49∧aA W w.heap.size (kS AtR.zero (.slice none 0 0) (.slice none 0 0) (.slice none 0 0) (.slice none 0 0) (.slice none 0 0)) 95∧Below w.heap.size w W∧wr.heap.size < W.heap.size) ?_ ?_
      ·exact⟨⟨by simpa[kS]using uD.out.set 9 (.int .u8 4),⟨(oV.out.set 9 _ (by omega)).rL,(oV.out.set 9 _ (by omega)).rr,(oV.out.set 9 _ (by omega)).rl,(oV.out.set 9 _ (by omega)).rf,(oV.out.set 9 _ (by omega)).rs⟩⟩,zZ.out.aC _ _ (by have:=vM.out;simp;omega),Fg.out.aC _ _ (by simp),Bq.out.setCell (by simp) _,by simpa using Ou.out⟩
      rintro W ⟨hX,hQ,hZ,hB,hs⟩
      have qJ:=hid hX.k
      have HRW:=hid hX.r
      have ER:=hid hQ
      have Ig:=hid hZ
      have jM:=hid hB
      have EP:=hid hs
      clear hX hQ hZ hB hs uD oV zZ Fg Bq Ou c9 f9 q0
      have KZ:Hid (bU W (w.heap.size+1+1) 3 1 vl at0.locked.length (fG at0.locked)):=hid HRW.out.rl
      have mV:Hid (at0.locked.length≤1048576):=hid (by have:=HN.out.l;have:=UC.out;omega)
      apply eX (w.heap.size+1) 4 3 1 (kS { at0 with L:=at0.L++[⟨4,iW,tx,at_,v,x,why⟩],last:=4 } v9 vr vl vf vs) 95 at0.locked.length (fG at0.locked) [.int .i64 at_] [1,2,4,5,8] (fun i=>if i=1 then .pointer (some ⟨(w.heap.size+1),4,none⟩)else if i=2 then vl else if i=4 then .pointer (some ⟨wr.heap.size,3,none⟩)else if i=5 then .int .i64 at_ else .pointer (some ⟨(w.heap.size+1),4,none⟩)) 0 3 6 7 9
      case hp=>exact⟨by decide,by decide,by decide⟩
      focus (intro vals;simp[ay,aB,Act.put];rfl)
      case hm=>kernel_rfl
      case hd=>kernel_rfl
      case hb=>kernel_rfl
      case iR=>kernel_rfl
      case hsz=>kernel_rfl
      case h12=>kernel_rfl
      case hstep=>
       refine⟨?_,?_,?_,?_,?_,?_,?_,?_,?_,?_,trivial⟩
       all_goals (
        intro l1 vz w' hi hd hJ
        refine⟨(fun g b h=>by cases h),fun _ ρ h1 h2 h3 h4 h5=>?_⟩
        have HQ:=hid hJ
        clear hJ)
       ·have hlow:=HQ.out.low (HQ.out.not (by omega) hi)
        clear h4 h5
        unfold aO
        go_simp
        exact HQ.out.put ⟨by decide,by decide,by decide⟩ 0 (by decide) hi (ah (af _) _) (fun h=>absurd h (by decide)) (fun _=>⟨_,rfl,World.ownsRow_made w' #[] 0 hlow.size (by decide) rfl⟩) (fun h=>absurd h (by decide)) (fun h=>absurd h (by decide))
       ·have f7:=h5 7 (by kernel_rfl)
        clear h4 h5
        unfold aO
        go_simp
        exact HQ.out.put ⟨by decide,by decide,by decide⟩ 1 (by decide) hi (af _) (fun _=>rfl) (fun h=>absurd h (by decide)) (fun h=>absurd h (by decide)) (fun h=>absurd h (by decide))
       ·have hlow:=HQ.out.low (HQ.out.not (by omega) hi)
        have c:=(qJ.out.below hlow).cell 4 (v:=vl) rfl
        have f56:ρ (.tmp 56)=(.pointer (some ⟨(w.heap.size+1),4,none⟩)):=(h4 1 56 (by kernel_rfl) (by kernel_rfl)).trans (HQ.out.kn 1 (by decide) (hd 1 (by kernel_rfl)))
        clear h4 h5
        unfold aO
        go_simp
        exact HQ.out.put ⟨by decide,by decide,by decide⟩ 2 (by decide) hi (af _) (fun _=>rfl) (fun h=>absurd h (by decide)) (fun h=>absurd h (by decide)) (fun h=>absurd h (by decide))
       ·have hlow:=HQ.out.low (HQ.out.not (by omega) hi)
        obtain⟨g1,hv1,hown⟩:=HQ.out.e1 (hd 0 (by kernel_rfl)) hi
        have f1:=(h4 0 55 (by kernel_rfl) (by kernel_rfl)).trans hv1
        have f4:ρ (.tmp 57)=(vl):=(h4 2 57 (by kernel_rfl) (by kernel_rfl)).trans (HQ.out.kn 2 (by decide) (hd 2 (by kernel_rfl)))
        rw[hv1]at hown
        obtain⟨v',w'',hrun,hb',hown'⟩:=lG w' W.heap.size 32 32 3 i0 _ 1 8 Tryd.underlying32 hi0 hz0 hz1 hz2 rfl (by decide) ⟨g1,0,none⟩ hown (vl) _ _ (KZ.out.old hlow) (kG _) (by have:=mV.out;unfold maxLen;omega) (by have:=mV.out;omega) hlow.size
        refine bW rfl f1 f4 hrun ?_
        exact HQ.out.put ⟨by decide,by decide,by decide⟩ 3 (by decide) hi hb' (fun h=>absurd h (by decide)) (fun h=>absurd h (by decide)) (fun _=>hown') (fun h=>absurd h (by decide))
       ·have f9:=h5 9 (by kernel_rfl)
        clear h4 h5
        unfold aO
        go_simp
        exact HQ.out.put ⟨by decide,by decide,by decide⟩ 4 (by decide) hi (af _) (fun _=>rfl) (fun h=>absurd h (by decide)) (fun h=>absurd h (by decide)) (fun h=>absurd h (by decide))
       ·have hlow:=HQ.out.low (HQ.out.not (by omega) hi)
        have hq:=ER.out.below hlow
        have c0:=hq.cell 0 rfl
        have c1:=hq.cell 1 rfl
        have c2:=hq.cell 2 rfl
        have c3:=hq.cell 3 rfl
        have c4:=hq.cell 4 rfl
        have c5:=hq.cell 5 rfl
        have c6:=hq.cell 6 rfl
        clear hq
        have f59:ρ (.tmp 59)=(.pointer (some ⟨wr.heap.size,3,none⟩)):=(h4 4 59 (by kernel_rfl) (by kernel_rfl)).trans (HQ.out.kn 4 (by decide) (hd 4 (by kernel_rfl)))
        clear h4 h5
        unfold aO
        go_simp
        exact HQ.out.put ⟨by decide,by decide,by decide⟩ 5 (by decide) hi (af _) (fun _=>rfl) (fun h=>absurd h (by decide)) (fun h=>absurd h (by decide)) (fun h=>absurd h (by decide))
       ·have f60:ρ (.tmp 60)=(.int .i64 at_):=(h4 5 60 (by kernel_rfl) (by kernel_rfl)).trans (HQ.out.kn 5 (by decide) (hd 5 (by kernel_rfl)))
        clear h4 h5
        unfold aO
        go_simp
        exact HQ.out.put ⟨by decide,by decide,by decide⟩ 6 (by decide) hi (ah (af _) _) (fun h=>absurd h (by decide)) (fun h=>absurd h (by decide)) (fun h=>absurd h (by decide)) (fun _=>⟨_,rfl,fun j u hu=>(aA.new _ _ _).cell j (by simpa using hu)⟩)
       ·have hlow:=HQ.out.low (HQ.out.not (by omega) hi)
        obtain⟨g8,Gu,c8⟩:=HQ.out.e8 (hd 6 (by kernel_rfl)) hi
        have e5:=HQ.out.e5 (hd 3 (by kernel_rfl)) hi
        have f5:ρ (.tmp 58)=vz 3:=h4 3 58 (by kernel_rfl) (by kernel_rfl)
        have f8:=(h4 6 61 (by kernel_rfl) (by kernel_rfl)).trans Gu
        obtain⟨v',w'',hrun,hown',hg,-,-⟩:=run_append_own_at w' W.heap.size 32 32 3 i0 _ 1 8 Tryd.underlying32 hi0 hz0 hz1 hz2 rfl (by decide) (vz 3) _ _ e5 ⟨g8,0,none⟩ 1 1 [.int .i64 at_] rfl (fun j u hu=>by rw[add0];exact c8 j u hu) (by intro u hu;simp at hu;subst hu;rfl) (by have:=mV.out;unfold maxLen;omega) (by have:=mV.out;omega) hlow.size
        refine bW rfl f5 f8 hrun ?_
        exact HQ.out.DU ⟨by decide,by decide,by decide⟩ hi (hd 3 (by kernel_rfl)) hg hown'
       ·have f7:=h5 7 (by kernel_rfl)
        clear h4 h5
        unfold aO
        go_simp
        exact HQ.out.put ⟨by decide,by decide,by decide⟩ 8 (by decide) hi (af _) (fun _=>rfl) (fun h=>absurd h (by decide)) (fun h=>absurd h (by decide)) (fun h=>absurd h (by decide))
       ·have hlow:=HQ.out.low hi
        have hq:=qJ.out.below hlow
        have c:=hq.cell 4 (v:=vl) rfl
        have z:=hq.free 4
        clear hq
        have f10:ρ (.tmp 63)=(.pointer (some ⟨(w.heap.size+1),4,none⟩)):=(h4 8 63 (by kernel_rfl) (by kernel_rfl)).trans (HQ.out.kn 8 (by decide) (hd 8 (by kernel_rfl)))
        obtain⟨g9,c9,ug⟩:=fA (HQ.out.e9 (hd 7 (by kernel_rfl)) hi)
        have f9:=(h4 7 62 (by kernel_rfl) (by kernel_rfl)).trans ug
        have Ii:=hid ug
        clear ug
        have hall:∀ i,i < 9→l1 i=true:=fun i hi=>by
         rcases i with _ | _ | _ | _ | _ | _ | _ | _ | _ | i
         ·exact hd 0 (by kernel_rfl)
         ·exact hd 1 (by kernel_rfl)
         ·exact hd 2 (by kernel_rfl)
         ·exact hd 3 (by kernel_rfl)
         ·exact hd 4 (by kernel_rfl)
         ·exact hd 5 (by kernel_rfl)
         ·exact hd 6 (by kernel_rfl)
         ·exact hd 7 (by kernel_rfl)
         ·exact hd 8 (by kernel_rfl)
         ·omega
        have uB:=hid hall
        clear hall h4 h5
        unfold aO
        go_simp
        have h:=HQ.out.DN ⟨by decide,by decide,by decide⟩ qJ.out hi uB.out
        rw[Ii.out]at h
        exact h
      case hdone=>
       rintro vals W3 ⟨y,hT,hB3,NI⟩
       have QT:=hid hB3
       have vG:=hid (HRW.out.turn hT (by omega))
       have QF:Hid (bU W3 (w.heap.size+1+1) 3 1 y (at0.locked++[at_]).length (fG (at0.locked++[at_]))):=hid (by have:=NI.wider (base':=w.heap.size+1+1) (by have:=EP.out;have:=vM.out;omega);simpa[fG]using this)
       have QE:=hid (hT.blk (by simp) Ig.out)
       have sW:=hid (jM.out.trans (hT.below (by simp) (by have:=jM.out.size;omega)))
       clear hT hB3 NI
       go_wp2_with fail
       go_roundw
       case rel=>exact⟨k+1,_,_,_,_,_,bf.out,by go_num,hid (by rw[qE.out];exact⟨by simpa[kS]using QT.out,⟨vG.out.rL,vG.out.rr,QF.out,vG.out.rf,vG.out.rs⟩⟩),QE,sW⟩
       case measure=>simp[intOf];have:=bf.out;omega
     by_cases k8:kind=8
     ·subst k8
      have qE:Hid (bC S iW (l.take (k+1)).reverse={ at0 with L:=at0.L++[⟨8,iW,tx,at_,v,x,why⟩],last:=8,stored:=at0.stored++[at_] }):=hid (by rw[HST.out];simp[eP,gu,kN])
      go_wp2_with fail
      refine kU (fun W=>OO W (w.heap.size+1) { at0 with L:=at0.L++[⟨8,iW,tx,at_,v,x,why⟩],last:=8 } v9 vr vl vf vs∧aA W wr.heap.size #[.int .u8 8,.int .i64 iW,.int .i64 tx,.int .i64 at_,.int .i64 v,.int .i64 x,.int .u8 why] 49∧aA W w.heap.size (kS AtR.zero (.slice none 0 0) (.slice none 0 0) (.slice none 0 0) (.slice none 0 0) (.slice none 0 0)) 95∧Below w.heap.size w W∧wr.heap.size < W.heap.size) ?_ ?_
      ·exact⟨⟨by simpa[kS]using uD.out.set 9 (.int .u8 8),⟨(oV.out.set 9 _ (by omega)).rL,(oV.out.set 9 _ (by omega)).rr,(oV.out.set 9 _ (by omega)).rl,(oV.out.set 9 _ (by omega)).rf,(oV.out.set 9 _ (by omega)).rs⟩⟩,zZ.out.aC _ _ (by have:=vM.out;simp;omega),Fg.out.aC _ _ (by simp),Bq.out.setCell (by simp) _,by simpa using Ou.out⟩
      rintro W ⟨hX,hQ,hZ,hB,hs⟩
      have qJ:=hid hX.k
      have HRW:=hid hX.r
      have ER:=hid hQ
      have Ig:=hid hZ
      have jM:=hid hB
      have EP:=hid hs
      clear hX hQ hZ hB hs uD oV zZ Fg Bq Ou c9 f9 q0
      have KZ:Hid (bU W (w.heap.size+1+1) 3 1 vs at0.stored.length (fG at0.stored)):=hid HRW.out.rs
      have mV:Hid (at0.stored.length≤1048576):=hid (by have:=HN.out.s;have:=UC.out;omega)
      apply eX (w.heap.size+1) 7 3 1 (kS { at0 with L:=at0.L++[⟨8,iW,tx,at_,v,x,why⟩],last:=8 } v9 vr vl vf vs) 95 at0.stored.length (fG at0.stored) [.int .i64 at_] [1,2,4,5,8] (fun i=>if i=1 then .pointer (some ⟨(w.heap.size+1),7,none⟩)else if i=2 then vs else if i=4 then .pointer (some ⟨wr.heap.size,3,none⟩)else if i=5 then .int .i64 at_ else .pointer (some ⟨(w.heap.size+1),7,none⟩)) 0 3 6 7 9
      case hp=>exact⟨by decide,by decide,by decide⟩
      focus (intro vals;simp[ay,aB,Act.put];rfl)
      case hm=>kernel_rfl
      case hd=>kernel_rfl
      case hb=>kernel_rfl
      case iR=>kernel_rfl
      case hsz=>kernel_rfl
      case h12=>kernel_rfl
      case hstep=>
       refine⟨?_,?_,?_,?_,?_,?_,?_,?_,?_,?_,trivial⟩
       all_goals (
        intro l1 vz w' hi hd hJ
        refine⟨(fun g b h=>by cases h),fun _ ρ h1 h2 h3 h4 h5=>?_⟩
        have HQ:=hid hJ
        clear hJ)
       ·have hlow:=HQ.out.low (HQ.out.not (by omega) hi)
        clear h4 h5
        unfold aO
        go_simp
        exact HQ.out.put ⟨by decide,by decide,by decide⟩ 0 (by decide) hi (ah (af _) _) (fun h=>absurd h (by decide)) (fun _=>⟨_,rfl,World.ownsRow_made w' #[] 0 hlow.size (by decide) rfl⟩) (fun h=>absurd h (by decide)) (fun h=>absurd h (by decide))
       ·have f7:=h5 7 (by kernel_rfl)
        clear h4 h5
        unfold aO
        go_simp
        exact HQ.out.put ⟨by decide,by decide,by decide⟩ 1 (by decide) hi (af _) (fun _=>rfl) (fun h=>absurd h (by decide)) (fun h=>absurd h (by decide)) (fun h=>absurd h (by decide))
       ·have hlow:=HQ.out.low (HQ.out.not (by omega) hi)
        have c:=(qJ.out.below hlow).cell 7 (v:=vs) rfl
        have f78:ρ (.tmp 78)=(.pointer (some ⟨(w.heap.size+1),7,none⟩)):=(h4 1 78 (by kernel_rfl) (by kernel_rfl)).trans (HQ.out.kn 1 (by decide) (hd 1 (by kernel_rfl)))
        clear h4 h5
        unfold aO
        go_simp
        exact HQ.out.put ⟨by decide,by decide,by decide⟩ 2 (by decide) hi (af _) (fun _=>rfl) (fun h=>absurd h (by decide)) (fun h=>absurd h (by decide)) (fun h=>absurd h (by decide))
       ·have hlow:=HQ.out.low (HQ.out.not (by omega) hi)
        obtain⟨g1,hv1,hown⟩:=HQ.out.e1 (hd 0 (by kernel_rfl)) hi
        have f1:=(h4 0 77 (by kernel_rfl) (by kernel_rfl)).trans hv1
        have f4:ρ (.tmp 79)=(vs):=(h4 2 79 (by kernel_rfl) (by kernel_rfl)).trans (HQ.out.kn 2 (by decide) (hd 2 (by kernel_rfl)))
        rw[hv1]at hown
        obtain⟨v',w'',hrun,hb',hown'⟩:=lG w' W.heap.size 32 32 3 i0 _ 1 8 Tryd.underlying32 hi0 hz0 hz1 hz2 rfl (by decide) ⟨g1,0,none⟩ hown (vs) _ _ (KZ.out.old hlow) (kG _) (by have:=mV.out;unfold maxLen;omega) (by have:=mV.out;omega) hlow.size
        refine bW rfl f1 f4 hrun ?_
        exact HQ.out.put ⟨by decide,by decide,by decide⟩ 3 (by decide) hi hb' (fun h=>absurd h (by decide)) (fun h=>absurd h (by decide)) (fun _=>hown') (fun h=>absurd h (by decide))
       ·have f9:=h5 9 (by kernel_rfl)
        clear h4 h5
        unfold aO
        go_simp
        exact HQ.out.put ⟨by decide,by decide,by decide⟩ 4 (by decide) hi (af _) (fun _=>rfl) (fun h=>absurd h (by decide)) (fun h=>absurd h (by decide)) (fun h=>absurd h (by decide))
       ·have hlow:=HQ.out.low (HQ.out.not (by omega) hi)
        have hq:=ER.out.below hlow
        have c0:=hq.cell 0 rfl
        have c1:=hq.cell 1 rfl
        have c2:=hq.cell 2 rfl
        have c3:=hq.cell 3 rfl
        have c4:=hq.cell 4 rfl
        have c5:=hq.cell 5 rfl
        have c6:=hq.cell 6 rfl
        clear hq
        have f81:ρ (.tmp 81)=(.pointer (some ⟨wr.heap.size,3,none⟩)):=(h4 4 81 (by kernel_rfl) (by kernel_rfl)).trans (HQ.out.kn 4 (by decide) (hd 4 (by kernel_rfl)))
        clear h4 h5
        unfold aO
        go_simp
        exact HQ.out.put ⟨by decide,by decide,by decide⟩ 5 (by decide) hi (af _) (fun _=>rfl) (fun h=>absurd h (by decide)) (fun h=>absurd h (by decide)) (fun h=>absurd h (by decide))
       ·have f82:ρ (.tmp 82)=(.int .i64 at_):=(h4 5 82 (by kernel_rfl) (by kernel_rfl)).trans (HQ.out.kn 5 (by decide) (hd 5 (by kernel_rfl)))
        clear h4 h5
        unfold aO
        go_simp
        exact HQ.out.put ⟨by decide,by decide,by decide⟩ 6 (by decide) hi (ah (af _) _) (fun h=>absurd h (by decide)) (fun h=>absurd h (by decide)) (fun h=>absurd h (by decide)) (fun _=>⟨_,rfl,fun j u hu=>(aA.new _ _ _).cell j (by simpa using hu)⟩)
       ·have hlow:=HQ.out.low (HQ.out.not (by omega) hi)
        obtain⟨g8,Gu,c8⟩:=HQ.out.e8 (hd 6 (by kernel_rfl)) hi
        have e5:=HQ.out.e5 (hd 3 (by kernel_rfl)) hi
        have f5:ρ (.tmp 80)=vz 3:=h4 3 80 (by kernel_rfl) (by kernel_rfl)
        have f8:=(h4 6 83 (by kernel_rfl) (by kernel_rfl)).trans Gu
        obtain⟨v',w'',hrun,hown',hg,-,-⟩:=run_append_own_at w' W.heap.size 32 32 3 i0 _ 1 8 Tryd.underlying32 hi0 hz0 hz1 hz2 rfl (by decide) (vz 3) _ _ e5 ⟨g8,0,none⟩ 1 1 [.int .i64 at_] rfl (fun j u hu=>by rw[add0];exact c8 j u hu) (by intro u hu;simp at hu;subst hu;rfl) (by have:=mV.out;unfold maxLen;omega) (by have:=mV.out;omega) hlow.size
        refine bW rfl f5 f8 hrun ?_
        exact HQ.out.DU ⟨by decide,by decide,by decide⟩ hi (hd 3 (by kernel_rfl)) hg hown'
       ·have f7:=h5 7 (by kernel_rfl)
        clear h4 h5
        unfold aO
        go_simp
        exact HQ.out.put ⟨by decide,by decide,by decide⟩ 8 (by decide) hi (af _) (fun _=>rfl) (fun h=>absurd h (by decide)) (fun h=>absurd h (by decide)) (fun h=>absurd h (by decide))
       ·have hlow:=HQ.out.low hi
        have hq:=qJ.out.below hlow
        have c:=hq.cell 7 (v:=vs) rfl
        have z:=hq.free 7
        clear hq
        have f10:ρ (.tmp 85)=(.pointer (some ⟨(w.heap.size+1),7,none⟩)):=(h4 8 85 (by kernel_rfl) (by kernel_rfl)).trans (HQ.out.kn 8 (by decide) (hd 8 (by kernel_rfl)))
        obtain⟨g9,c9,ug⟩:=fA (HQ.out.e9 (hd 7 (by kernel_rfl)) hi)
        have f9:=(h4 7 84 (by kernel_rfl) (by kernel_rfl)).trans ug
        have Ii:=hid ug
        clear ug
        have hall:∀ i,i < 9→l1 i=true:=fun i hi=>by
         rcases i with _ | _ | _ | _ | _ | _ | _ | _ | _ | i
         ·exact hd 0 (by kernel_rfl)
         ·exact hd 1 (by kernel_rfl)
         ·exact hd 2 (by kernel_rfl)
         ·exact hd 3 (by kernel_rfl)
         ·exact hd 4 (by kernel_rfl)
         ·exact hd 5 (by kernel_rfl)
         ·exact hd 6 (by kernel_rfl)
         ·exact hd 7 (by kernel_rfl)
         ·exact hd 8 (by kernel_rfl)
         ·omega
        have uB:=hid hall
        clear hall h4 h5
        unfold aO
        go_simp
        have h:=HQ.out.DN ⟨by decide,by decide,by decide⟩ qJ.out hi uB.out
        rw[Ii.out]at h
        exact h
      case hdone=>
       rintro vals W3 ⟨y,hT,hB3,NI⟩
       have QT:=hid hB3
       have vG:=hid (HRW.out.turn hT (by omega))
       have QF:Hid (bU W3 (w.heap.size+1+1) 3 1 y (at0.stored++[at_]).length (fG (at0.stored++[at_]))):=hid (by have:=NI.wider (base':=w.heap.size+1+1) (by have:=EP.out;have:=vM.out;omega);simpa[fG]using this)
       have QE:=hid (hT.blk (by simp) Ig.out)
       have sW:=hid (jM.out.trans (hT.below (by simp) (by have:=jM.out.size;omega)))
       clear hT hB3 NI
       go_wp2_with fail
       go_roundw
       case rel=>exact⟨k+1,_,_,_,_,_,bf.out,by go_num,hid (by rw[qE.out];exact⟨by simpa[kS]using QT.out,⟨vG.out.rL,vG.out.rr,vG.out.rl,vG.out.rf,QF.out⟩⟩),QE,sW⟩
       case measure=>simp[intOf];have:=bf.out;omega
     by_cases k9:kind=9
     ·subst k9
      have qE:Hid (bC S iW (l.take (k+1)).reverse={ at0 with L:=at0.L++[⟨9,iW,tx,at_,v,x,why⟩],last:=9,freed:=at0.freed++[at_] }):=hid (by rw[HST.out];simp[eP,gu,kN])
      go_wp2_with fail
      refine kU (fun W=>OO W (w.heap.size+1) { at0 with L:=at0.L++[⟨9,iW,tx,at_,v,x,why⟩],last:=9 } v9 vr vl vf vs∧aA W wr.heap.size #[.int .u8 9,.int .i64 iW,.int .i64 tx,.int .i64 at_,.int .i64 v,.int .i64 x,.int .u8 why] 49∧aA W w.heap.size (kS AtR.zero (.slice none 0 0) (.slice none 0 0) (.slice none 0 0) (.slice none 0 0) (.slice none 0 0)) 95∧Below w.heap.size w W∧wr.heap.size < W.heap.size) ?_ ?_
      ·exact⟨⟨by simpa[kS]using uD.out.set 9 (.int .u8 9),⟨(oV.out.set 9 _ (by omega)).rL,(oV.out.set 9 _ (by omega)).rr,(oV.out.set 9 _ (by omega)).rl,(oV.out.set 9 _ (by omega)).rf,(oV.out.set 9 _ (by omega)).rs⟩⟩,zZ.out.aC _ _ (by have:=vM.out;simp;omega),Fg.out.aC _ _ (by simp),Bq.out.setCell (by simp) _,by simpa using Ou.out⟩
      rintro W ⟨hX,hQ,hZ,hB,hs⟩
      have qJ:=hid hX.k
      have HRW:=hid hX.r
      have ER:=hid hQ
      have Ig:=hid hZ
      have jM:=hid hB
      have EP:=hid hs
      clear hX hQ hZ hB hs uD oV zZ Fg Bq Ou c9 f9 q0
      have KZ:Hid (bU W (w.heap.size+1+1) 3 1 vf at0.freed.length (fG at0.freed)):=hid HRW.out.rf
      have mV:Hid (at0.freed.length≤1048576):=hid (by have:=HN.out.f;have:=UC.out;omega)
      apply eX (w.heap.size+1) 5 3 1 (kS { at0 with L:=at0.L++[⟨9,iW,tx,at_,v,x,why⟩],last:=9 } v9 vr vl vf vs) 95 at0.freed.length (fG at0.freed) [.int .i64 at_] [1,2,4,5,8] (fun i=>if i=1 then .pointer (some ⟨(w.heap.size+1),5,none⟩)else if i=2 then vf else if i=4 then .pointer (some ⟨wr.heap.size,3,none⟩)else if i=5 then .int .i64 at_ else .pointer (some ⟨(w.heap.size+1),5,none⟩)) 0 3 6 7 9
      case hp=>exact⟨by decide,by decide,by decide⟩
      focus (intro vals;simp[ay,aB,Act.put];rfl)
      case hm=>kernel_rfl
      case hd=>kernel_rfl
      case hb=>kernel_rfl
      case iR=>kernel_rfl
      case hsz=>kernel_rfl
      case h12=>kernel_rfl
      case hstep=>
       refine⟨?_,?_,?_,?_,?_,?_,?_,?_,?_,?_,trivial⟩
       all_goals (
        intro l1 vz w' hi hd hJ
        refine⟨(fun g b h=>by cases h),fun _ ρ h1 h2 h3 h4 h5=>?_⟩
        have HQ:=hid hJ
        clear hJ)
       ·have hlow:=HQ.out.low (HQ.out.not (by omega) hi)
        clear h4 h5
        unfold aO
        go_simp
        exact HQ.out.put ⟨by decide,by decide,by decide⟩ 0 (by decide) hi (ah (af _) _) (fun h=>absurd h (by decide)) (fun _=>⟨_,rfl,World.ownsRow_made w' #[] 0 hlow.size (by decide) rfl⟩) (fun h=>absurd h (by decide)) (fun h=>absurd h (by decide))
       ·have f7:=h5 7 (by kernel_rfl)
        clear h4 h5
        unfold aO
        go_simp
        exact HQ.out.put ⟨by decide,by decide,by decide⟩ 1 (by decide) hi (af _) (fun _=>rfl) (fun h=>absurd h (by decide)) (fun h=>absurd h (by decide)) (fun h=>absurd h (by decide))
       ·have hlow:=HQ.out.low (HQ.out.not (by omega) hi)
        have c:=(qJ.out.below hlow).cell 5 (v:=vf) rfl
        have f90:ρ (.tmp 90)=(.pointer (some ⟨(w.heap.size+1),5,none⟩)):=(h4 1 90 (by kernel_rfl) (by kernel_rfl)).trans (HQ.out.kn 1 (by decide) (hd 1 (by kernel_rfl)))
        clear h4 h5
        unfold aO
        go_simp
        exact HQ.out.put ⟨by decide,by decide,by decide⟩ 2 (by decide) hi (af _) (fun _=>rfl) (fun h=>absurd h (by decide)) (fun h=>absurd h (by decide)) (fun h=>absurd h (by decide))
       ·have hlow:=HQ.out.low (HQ.out.not (by omega) hi)
        obtain⟨g1,hv1,hown⟩:=HQ.out.e1 (hd 0 (by kernel_rfl)) hi
        have f1:=(h4 0 89 (by kernel_rfl) (by kernel_rfl)).trans hv1
        have f4:ρ (.tmp 91)=(vf):=(h4 2 91 (by kernel_rfl) (by kernel_rfl)).trans (HQ.out.kn 2 (by decide) (hd 2 (by kernel_rfl)))
        rw[hv1]at hown
        obtain⟨v',w'',hrun,hb',hown'⟩:=lG w' W.heap.size 32 32 3 i0 _ 1 8 Tryd.underlying32 hi0 hz0 hz1 hz2 rfl (by decide) ⟨g1,0,none⟩ hown (vf) _ _ (KZ.out.old hlow) (kG _) (by have:=mV.out;unfold maxLen;omega) (by have:=mV.out;omega) hlow.size
        refine bW rfl f1 f4 hrun ?_
        exact HQ.out.put ⟨by decide,by decide,by decide⟩ 3 (by decide) hi hb' (fun h=>absurd h (by decide)) (fun h=>absurd h (by decide)) (fun _=>hown') (fun h=>absurd h (by decide))
       ·have f9:=h5 9 (by kernel_rfl)
        clear h4 h5
        unfold aO
        go_simp
        exact HQ.out.put ⟨by decide,by decide,by decide⟩ 4 (by decide) hi (af _) (fun _=>rfl) (fun h=>absurd h (by decide)) (fun h=>absurd h (by decide)) (fun h=>absurd h (by decide))
       ·have hlow:=HQ.out.low (HQ.out.not (by omega) hi)
        have hq:=ER.out.below hlow
        have c0:=hq.cell 0 rfl
        have c1:=hq.cell 1 rfl
        have c2:=hq.cell 2 rfl
        have c3:=hq.cell 3 rfl
        have c4:=hq.cell 4 rfl
        have c5:=hq.cell 5 rfl
        have c6:=hq.cell 6 rfl
        clear hq
        have f93:ρ (.tmp 93)=(.pointer (some ⟨wr.heap.size,3,none⟩)):=(h4 4 93 (by kernel_rfl) (by kernel_rfl)).trans (HQ.out.kn 4 (by decide) (hd 4 (by kernel_rfl)))
        clear h4 h5
        unfold aO
        go_simp
        exact HQ.out.put ⟨by decide,by decide,by decide⟩ 5 (by decide) hi (af _) (fun _=>rfl) (fun h=>absurd h (by decide)) (fun h=>absurd h (by decide)) (fun h=>absurd h (by decide))
       ·have f94:ρ (.tmp 94)=(.int .i64 at_):=(h4 5 94 (by kernel_rfl) (by kernel_rfl)).trans (HQ.out.kn 5 (by decide) (hd 5 (by kernel_rfl)))
        clear h4 h5
        unfold aO
        go_simp
        exact HQ.out.put ⟨by decide,by decide,by decide⟩ 6 (by decide) hi (ah (af _) _) (fun h=>absurd h (by decide)) (fun h=>absurd h (by decide)) (fun h=>absurd h (by decide)) (fun _=>⟨_,rfl,fun j u hu=>(aA.new _ _ _).cell j (by simpa using hu)⟩)
       ·have hlow:=HQ.out.low (HQ.out.not (by omega) hi)
        obtain⟨g8,Gu,c8⟩:=HQ.out.e8 (hd 6 (by kernel_rfl)) hi
        have e5:=HQ.out.e5 (hd 3 (by kernel_rfl)) hi
        have f5:ρ (.tmp 92)=vz 3:=h4 3 92 (by kernel_rfl) (by kernel_rfl)
        have f8:=(h4 6 95 (by kernel_rfl) (by kernel_rfl)).trans Gu
        obtain⟨v',w'',hrun,hown',hg,-,-⟩:=run_append_own_at w' W.heap.size 32 32 3 i0 _ 1 8 Tryd.underlying32 hi0 hz0 hz1 hz2 rfl (by decide) (vz 3) _ _ e5 ⟨g8,0,none⟩ 1 1 [.int .i64 at_] rfl (fun j u hu=>by rw[add0];exact c8 j u hu) (by intro u hu;simp at hu;subst hu;rfl) (by have:=mV.out;unfold maxLen;omega) (by have:=mV.out;omega) hlow.size
        refine bW rfl f5 f8 hrun ?_
        exact HQ.out.DU ⟨by decide,by decide,by decide⟩ hi (hd 3 (by kernel_rfl)) hg hown'
       ·have f7:=h5 7 (by kernel_rfl)
        clear h4 h5
        unfold aO
        go_simp
        exact HQ.out.put ⟨by decide,by decide,by decide⟩ 8 (by decide) hi (af _) (fun _=>rfl) (fun h=>absurd h (by decide)) (fun h=>absurd h (by decide)) (fun h=>absurd h (by decide))
       ·have hlow:=HQ.out.low hi
        have hq:=qJ.out.below hlow
        have c:=hq.cell 5 (v:=vf) rfl
        have z:=hq.free 5
        clear hq
        have f10:ρ (.tmp 97)=(.pointer (some ⟨(w.heap.size+1),5,none⟩)):=(h4 8 97 (by kernel_rfl) (by kernel_rfl)).trans (HQ.out.kn 8 (by decide) (hd 8 (by kernel_rfl)))
        obtain⟨g9,c9,ug⟩:=fA (HQ.out.e9 (hd 7 (by kernel_rfl)) hi)
        have f9:=(h4 7 96 (by kernel_rfl) (by kernel_rfl)).trans ug
        have Ii:=hid ug
        clear ug
        have hall:∀ i,i < 9→l1 i=true:=fun i hi=>by
         rcases i with _ | _ | _ | _ | _ | _ | _ | _ | _ | i
         ·exact hd 0 (by kernel_rfl)
         ·exact hd 1 (by kernel_rfl)
         ·exact hd 2 (by kernel_rfl)
         ·exact hd 3 (by kernel_rfl)
         ·exact hd 4 (by kernel_rfl)
         ·exact hd 5 (by kernel_rfl)
         ·exact hd 6 (by kernel_rfl)
         ·exact hd 7 (by kernel_rfl)
         ·exact hd 8 (by kernel_rfl)
         ·omega
        have uB:=hid hall
        clear hall h4 h5
        unfold aO
        go_simp
        have h:=HQ.out.DN ⟨by decide,by decide,by decide⟩ qJ.out hi uB.out
        rw[Ii.out]at h
        exact h
      case hdone=>
       rintro vals W3 ⟨y,hT,hB3,NI⟩
       have QT:=hid hB3
       have vG:=hid (HRW.out.turn hT (by omega))
       have QF:Hid (bU W3 (w.heap.size+1+1) 3 1 y (at0.freed++[at_]).length (fG (at0.freed++[at_]))):=hid (by have:=NI.wider (base':=w.heap.size+1+1) (by have:=EP.out;have:=vM.out;omega);simpa[fG]using this)
       have QE:=hid (hT.blk (by simp) Ig.out)
       have sW:=hid (jM.out.trans (hT.below (by simp) (by have:=jM.out.size;omega)))
       clear hT hB3 NI
       go_wp2_with fail
       go_roundw
       case rel=>exact⟨k+1,_,_,_,_,_,bf.out,by go_num,hid (by rw[qE.out];exact⟨by simpa[kS]using QT.out,⟨vG.out.rL,vG.out.rr,vG.out.rl,QF.out,vG.out.rs⟩⟩),QE,sW⟩
       case measure=>simp[intOf];have:=bf.out;omega
     by_cases k11:kind=11
     ·subst k11
      have qE:Hid (bC S iW (l.take (k+1)).reverse={ at0 with L:=at0.L++[⟨11,iW,tx,at_,v,x,why⟩],last:=11,freed:=at0.freed++[at_] }):=hid (by rw[HST.out];simp[eP,gu,kN])
      go_wp2_with fail
      refine kU (fun W=>OO W (w.heap.size+1) { at0 with L:=at0.L++[⟨11,iW,tx,at_,v,x,why⟩],last:=11 } v9 vr vl vf vs∧aA W wr.heap.size #[.int .u8 11,.int .i64 iW,.int .i64 tx,.int .i64 at_,.int .i64 v,.int .i64 x,.int .u8 why] 49∧aA W w.heap.size (kS AtR.zero (.slice none 0 0) (.slice none 0 0) (.slice none 0 0) (.slice none 0 0) (.slice none 0 0)) 95∧Below w.heap.size w W∧wr.heap.size < W.heap.size) ?_ ?_
      ·exact⟨⟨by simpa[kS]using uD.out.set 9 (.int .u8 11),⟨(oV.out.set 9 _ (by omega)).rL,(oV.out.set 9 _ (by omega)).rr,(oV.out.set 9 _ (by omega)).rl,(oV.out.set 9 _ (by omega)).rf,(oV.out.set 9 _ (by omega)).rs⟩⟩,zZ.out.aC _ _ (by have:=vM.out;simp;omega),Fg.out.aC _ _ (by simp),Bq.out.setCell (by simp) _,by simpa using Ou.out⟩
      rintro W ⟨hX,hQ,hZ,hB,hs⟩
      have qJ:=hid hX.k
      have HRW:=hid hX.r
      have ER:=hid hQ
      have Ig:=hid hZ
      have jM:=hid hB
      have EP:=hid hs
      clear hX hQ hZ hB hs uD oV zZ Fg Bq Ou c9 f9 q0
      have KZ:Hid (bU W (w.heap.size+1+1) 3 1 vf at0.freed.length (fG at0.freed)):=hid HRW.out.rf
      have mV:Hid (at0.freed.length≤1048576):=hid (by have:=HN.out.f;have:=UC.out;omega)
      apply eX (w.heap.size+1) 5 3 1 (kS { at0 with L:=at0.L++[⟨11,iW,tx,at_,v,x,why⟩],last:=11 } v9 vr vl vf vs) 95 at0.freed.length (fG at0.freed) [.int .i64 at_] [1,2,4,5,8] (fun i=>if i=1 then .pointer (some ⟨(w.heap.size+1),5,none⟩)else if i=2 then vf else if i=4 then .pointer (some ⟨wr.heap.size,3,none⟩)else if i=5 then .int .i64 at_ else .pointer (some ⟨(w.heap.size+1),5,none⟩)) 0 3 6 7 9
      case hp=>exact⟨by decide,by decide,by decide⟩
      focus (intro vals;simp[ay,aB,Act.put];rfl)
      case hm=>kernel_rfl
      case hd=>kernel_rfl
      case hb=>kernel_rfl
      case iR=>kernel_rfl
      case hsz=>kernel_rfl
      case h12=>kernel_rfl
      case hstep=>
       refine⟨?_,?_,?_,?_,?_,?_,?_,?_,?_,?_,trivial⟩
       all_goals (
        intro l1 vz w' hi hd hJ
        refine⟨(fun g b h=>by cases h),fun _ ρ h1 h2 h3 h4 h5=>?_⟩
        have HQ:=hid hJ
        clear hJ)
       ·have hlow:=HQ.out.low (HQ.out.not (by omega) hi)
        clear h4 h5
        unfold aO
        go_simp
        exact HQ.out.put ⟨by decide,by decide,by decide⟩ 0 (by decide) hi (ah (af _) _) (fun h=>absurd h (by decide)) (fun _=>⟨_,rfl,World.ownsRow_made w' #[] 0 hlow.size (by decide) rfl⟩) (fun h=>absurd h (by decide)) (fun h=>absurd h (by decide))
       ·have f7:=h5 7 (by kernel_rfl)
        clear h4 h5
        unfold aO
        go_simp
        exact HQ.out.put ⟨by decide,by decide,by decide⟩ 1 (by decide) hi (af _) (fun _=>rfl) (fun h=>absurd h (by decide)) (fun h=>absurd h (by decide)) (fun h=>absurd h (by decide))
       ·have hlow:=HQ.out.low (HQ.out.not (by omega) hi)
        have c:=(qJ.out.below hlow).cell 5 (v:=vf) rfl
        have f90:ρ (.tmp 90)=(.pointer (some ⟨(w.heap.size+1),5,none⟩)):=(h4 1 90 (by kernel_rfl) (by kernel_rfl)).trans (HQ.out.kn 1 (by decide) (hd 1 (by kernel_rfl)))
        clear h4 h5
        unfold aO
        go_simp
        exact HQ.out.put ⟨by decide,by decide,by decide⟩ 2 (by decide) hi (af _) (fun _=>rfl) (fun h=>absurd h (by decide)) (fun h=>absurd h (by decide)) (fun h=>absurd h (by decide))
       ·have hlow:=HQ.out.low (HQ.out.not (by omega) hi)
        obtain⟨g1,hv1,hown⟩:=HQ.out.e1 (hd 0 (by kernel_rfl)) hi
        have f1:=(h4 0 89 (by kernel_rfl) (by kernel_rfl)).trans hv1
        have f4:ρ (.tmp 91)=(vf):=(h4 2 91 (by kernel_rfl) (by kernel_rfl)).trans (HQ.out.kn 2 (by decide) (hd 2 (by kernel_rfl)))
        rw[hv1]at hown
        obtain⟨v',w'',hrun,hb',hown'⟩:=lG w' W.heap.size 32 32 3 i0 _ 1 8 Tryd.underlying32 hi0 hz0 hz1 hz2 rfl (by decide) ⟨g1,0,none⟩ hown (vf) _ _ (KZ.out.old hlow) (kG _) (by have:=mV.out;unfold maxLen;omega) (by have:=mV.out;omega) hlow.size
        refine bW rfl f1 f4 hrun ?_
        exact HQ.out.put ⟨by decide,by decide,by decide⟩ 3 (by decide) hi hb' (fun h=>absurd h (by decide)) (fun h=>absurd h (by decide)) (fun _=>hown') (fun h=>absurd h (by decide))
       ·have f9:=h5 9 (by kernel_rfl)
        clear h4 h5
        unfold aO
        go_simp
        exact HQ.out.put ⟨by decide,by decide,by decide⟩ 4 (by decide) hi (af _) (fun _=>rfl) (fun h=>absurd h (by decide)) (fun h=>absurd h (by decide)) (fun h=>absurd h (by decide))
       ·have hlow:=HQ.out.low (HQ.out.not (by omega) hi)
        have hq:=ER.out.below hlow
        have c0:=hq.cell 0 rfl
        have c1:=hq.cell 1 rfl
        have c2:=hq.cell 2 rfl
        have c3:=hq.cell 3 rfl
        have c4:=hq.cell 4 rfl
        have c5:=hq.cell 5 rfl
        have c6:=hq.cell 6 rfl
        clear hq
        have f93:ρ (.tmp 93)=(.pointer (some ⟨wr.heap.size,3,none⟩)):=(h4 4 93 (by kernel_rfl) (by kernel_rfl)).trans (HQ.out.kn 4 (by decide) (hd 4 (by kernel_rfl)))
        clear h4 h5
        unfold aO
        go_simp
        exact HQ.out.put ⟨by decide,by decide,by decide⟩ 5 (by decide) hi (af _) (fun _=>rfl) (fun h=>absurd h (by decide)) (fun h=>absurd h (by decide)) (fun h=>absurd h (by decide))
       ·have f94:ρ (.tmp 94)=(.int .i64 at_):=(h4 5 94 (by kernel_rfl) (by kernel_rfl)).trans (HQ.out.kn 5 (by decide) (hd 5 (by kernel_rfl)))
        clear h4 h5
        unfold aO
        go_simp
        exact HQ.out.put ⟨by decide,by decide,by decide⟩ 6 (by decide) hi (ah (af _) _) (fun h=>absurd h (by decide)) (fun h=>absurd h (by decide)) (fun h=>absurd h (by decide)) (fun _=>⟨_,rfl,fun j u hu=>(aA.new _ _ _).cell j (by simpa using hu)⟩)
       ·have hlow:=HQ.out.low (HQ.out.not (by omega) hi)
        obtain⟨g8,Gu,c8⟩:=HQ.out.e8 (hd 6 (by kernel_rfl)) hi
        have e5:=HQ.out.e5 (hd 3 (by kernel_rfl)) hi
        have f5:ρ (.tmp 92)=vz 3:=h4 3 92 (by kernel_rfl) (by kernel_rfl)
        have f8:=(h4 6 95 (by kernel_rfl) (by kernel_rfl)).trans Gu
        obtain⟨v',w'',hrun,hown',hg,-,-⟩:=run_append_own_at w' W.heap.size 32 32 3 i0 _ 1 8 Tryd.underlying32 hi0 hz0 hz1 hz2 rfl (by decide) (vz 3) _ _ e5 ⟨g8,0,none⟩ 1 1 [.int .i64 at_] rfl (fun j u hu=>by rw[add0];exact c8 j u hu) (by intro u hu;simp at hu;subst hu;rfl) (by have:=mV.out;unfold maxLen;omega) (by have:=mV.out;omega) hlow.size
        refine bW rfl f5 f8 hrun ?_
        exact HQ.out.DU ⟨by decide,by decide,by decide⟩ hi (hd 3 (by kernel_rfl)) hg hown'
       ·have f7:=h5 7 (by kernel_rfl)
        clear h4 h5
        unfold aO
        go_simp
        exact HQ.out.put ⟨by decide,by decide,by decide⟩ 8 (by decide) hi (af _) (fun _=>rfl) (fun h=>absurd h (by decide)) (fun h=>absurd h (by decide)) (fun h=>absurd h (by decide))
       ·have hlow:=HQ.out.low hi
        have hq:=qJ.out.below hlow
        have c:=hq.cell 5 (v:=vf) rfl
        have z:=hq.free 5
        clear hq
        have f10:ρ (.tmp 97)=(.pointer (some ⟨(w.heap.size+1),5,none⟩)):=(h4 8 97 (by kernel_rfl) (by kernel_rfl)).trans (HQ.out.kn 8 (by decide) (hd 8 (by kernel_rfl)))
        obtain⟨g9,c9,ug⟩:=fA (HQ.out.e9 (hd 7 (by kernel_rfl)) hi)
        have f9:=(h4 7 96 (by kernel_rfl) (by kernel_rfl)).trans ug
        have Ii:=hid ug
        clear ug
        have hall:∀ i,i < 9→l1 i=true:=fun i hi=>by
         rcases i with _ | _ | _ | _ | _ | _ | _ | _ | _ | i
         ·exact hd 0 (by kernel_rfl)
         ·exact hd 1 (by kernel_rfl)
         ·exact hd 2 (by kernel_rfl)
         ·exact hd 3 (by kernel_rfl)
         ·exact hd 4 (by kernel_rfl)
         ·exact hd 5 (by kernel_rfl)
         ·exact hd 6 (by kernel_rfl)
         ·exact hd 7 (by kernel_rfl)
         ·exact hd 8 (by kernel_rfl)
         ·omega
        have uB:=hid hall
        clear hall h4 h5
        unfold aO
        go_simp
        have h:=HQ.out.DN ⟨by decide,by decide,by decide⟩ qJ.out hi uB.out
        rw[Ii.out]at h
        exact h
      case hdone=>
       rintro vals W3 ⟨y,hT,hB3,NI⟩
       have QT:=hid hB3
       have vG:=hid (HRW.out.turn hT (by omega))
       have QF:Hid (bU W3 (w.heap.size+1+1) 3 1 y (at0.freed++[at_]).length (fG (at0.freed++[at_]))):=hid (by have:=NI.wider (base':=w.heap.size+1+1) (by have:=EP.out;have:=vM.out;omega);simpa[fG]using this)
       have QE:=hid (hT.blk (by simp) Ig.out)
       have sW:=hid (jM.out.trans (hT.below (by simp) (by have:=jM.out.size;omega)))
       clear hT hB3 NI
       go_wp2_with fail
       go_roundw
       case rel=>exact⟨k+1,_,_,_,_,_,bf.out,by go_num,hid (by rw[qE.out];exact⟨by simpa[kS]using QT.out,⟨vG.out.rL,vG.out.rr,vG.out.rl,QF.out,vG.out.rs⟩⟩),QE,sW⟩
       case measure=>simp[intOf];have:=bf.out;omega
     by_cases k5:kind=5
     ·subst k5
      have qE:Hid (bC S iW (l.take (k+1)).reverse={ at0 with L:=at0.L++[⟨5,iW,tx,at_,v,x,why⟩],last:=5,wv:=v }):=hid (by rw[HST.out];simp[eP,gu,kN])
      have cx:=uD.out.cell 2 (v:=.int .i64 at0.wv) rfl
      have fx:=uD.out.free 2
      have q4:=zZ.out.cell 4 (v:=.int .i64 v) rfl
      have q6:=zZ.out.cell 6 (v:=.int .u8 why) rfl
      have hqe:wr.heap.size≠w.heap.size+1:=by have:=vM.out;omega
      go_wp2_with fail
      go_roundw
      case rel=>exact⟨k+1,_,_,_,_,_,bf.out,by go_num,hid (by rw[qE.out];exact⟨by simpa[kS]using(uD.out.set 9 (.int .u8 5)).set 2 (.int .i64 v),((oV.out.set (B:=w.heap.size+1) 9 (.int .u8 5) (by omega)).set (B:=w.heap.size+1) 2 (.int .i64 v) (by omega)).Xv⟩),hid ((Fg.out.aC _ _ (by simp)).aC _ _ (by simp)),hid ((Bq.out.setCell (by simp) _).setCell (by simp) _)⟩
      case measure=>simp[intOf];have:=bf.out;omega
     by_cases k6:kind=6
     ·subst k6
      have qE:Hid (bC S iW (l.take (k+1)).reverse={ at0 with L:=at0.L++[⟨6,iW,tx,at_,v,x,why⟩],last:=6,checked:=at0.checked+1 }):=hid (by rw[HST.out];simp[eP,gu,kN])
      have cx:=uD.out.cell 6 (v:=.int .i64 at0.checked) rfl
      have fx:=uD.out.free 6
      have q4:=zZ.out.cell 4 (v:=.int .i64 v) rfl
      have q6:=zZ.out.cell 6 (v:=.int .u8 why) rfl
      have hqe:wr.heap.size≠w.heap.size+1:=by have:=vM.out;omega
      have jw:IntKind.i64.wrap ((at0.checked:Int)+1)=((at0.checked+1:Nat):Int):=by rw[IntWalk.i64_in _ (by have:=HN.out.c;have:=UC.out;omega)];omega
      go_wp2_with fail
      go_roundw
      case rel=>exact⟨k+1,_,_,_,_,_,bf.out,by go_num,hid (by rw[qE.out];exact⟨by simpa[kS]using(uD.out.set 9 (.int .u8 6)).set 6 (.int .i64 ((at0.checked+1:Nat):Int)),((oV.out.set (B:=w.heap.size+1) 9 (.int .u8 6) (by omega)).set (B:=w.heap.size+1) 6 (.int .i64 ((at0.checked+1:Nat):Int)) (by omega)).Xv⟩),hid ((Fg.out.aC _ _ (by simp)).aC _ _ (by simp)),hid ((Bq.out.setCell (by simp) _).setCell (by simp) _)⟩
      case measure=>simp[intOf];have:=bf.out;omega
     by_cases k10:kind=10
     ·subst k10
      have qE:Hid (bC S iW (l.take (k+1)).reverse={ at0 with L:=at0.L++[⟨10,iW,tx,at_,v,x,why⟩],last:=10,why:=why }):=hid (by rw[HST.out];simp[eP,gu,kN])
      have cx:=uD.out.cell 8 (v:=.int .u8 at0.why) rfl
      have fx:=uD.out.free 8
      have q4:=zZ.out.cell 4 (v:=.int .i64 v) rfl
      have q6:=zZ.out.cell 6 (v:=.int .u8 why) rfl
      have hqe:wr.heap.size≠w.heap.size+1:=by have:=vM.out;omega
      go_wp2_with fail
      go_roundw
      case rel=>exact⟨k+1,_,_,_,_,_,bf.out,by go_num,hid (by rw[qE.out];exact⟨by simpa[kS]using(uD.out.set 9 (.int .u8 10)).set 8 (.int .u8 why),((oV.out.set (B:=w.heap.size+1) 9 (.int .u8 10) (by omega)).set (B:=w.heap.size+1) 8 (.int .u8 why) (by omega)).Xv⟩),hid ((Fg.out.aC _ _ (by simp)).aC _ _ (by simp)),hid ((Bq.out.setCell (by simp) _).setCell (by simp) _)⟩
      case measure=>simp[intOf];have:=bf.out;omega
     have qE:Hid (bC S iW (l.take (k+1)).reverse={ at0 with L:=at0.L++[⟨kind,iW,tx,at_,v,x,why⟩],last:=kind }):=hid (by rw[HST.out];simp[eP,gu,kN,uF.out,k3,k4,k5,k6,k8,k9,k10,k11])
     have m3:(kind==3)=false:=by simpa using k3
     have m4:(kind==4)=false:=by simpa using k4
     have m5:(kind==5)=false:=by simpa using k5
     have m6:(kind==6)=false:=by simpa using k6
     have m8:(kind==8)=false:=by simpa using k8
     have m9:(kind==9)=false:=by simpa using k9
     have m10:(kind==10)=false:=by simpa using k10
     have m11:(kind==11)=false:=by simpa using k11
     go_wp2_with fail
     go_roundw
     case rel=>exact⟨k+1,_,_,_,_,_,bf.out,by go_num,hid (by rw[qE.out];exact⟨by simpa[kS]using uD.out.set 9 (.int .u8 kind),(oV.out.set (B:=w.heap.size+1) 9 (.int .u8 kind) (by omega)).Xv⟩),hid (Fg.out.aC _ _ (by simp)),hid (Bq.out.setCell (by simp) _)⟩
     case measure=>simp[intOf];have:=bf.out;omega
  ·obtain rfl:k=l.length:=by omega
   have j1:decide ((l.length:Int) < (l.length:Int))=false:=by rw[decide_eq_false_iff_not];omega
   have hx:=HX.out
   rw[jv]at hx
   have hz:=HZ.out
   have Dv:=hid HB.out
   clear HX HZ HB
   obtain⟨A,hA⟩:∃ A,A=bC S th l.reverse:=⟨_,rfl⟩
   have HA:=hid hA
   rw[←hA]at hx
   clear hA
   obtain⟨pL,cL,eL⟩:=hx.r.rL.shape
   obtain⟨pr,cr,er⟩:=hx.r.rr.shape
   obtain⟨pl,cl,el⟩:=hx.r.rl.shape
   obtain⟨pf,cf,ef⟩:=hx.r.rf.shape
   obtain⟨ps,cs,es⟩:=hx.r.rs.shape
   rw[eL,er,el,ef,es]at hx
   have xO:=hz
   unfold kS at xO
   have HXE:=hid hx
   have HZE:=hid xO
   have c0:=hx.k.cell 0 (v:=.slice pL A.L.length cL) rfl
   have c1:=hx.k.cell 1 (v:=.int .i64 A.rv) rfl
   have c2:=hx.k.cell 2 (v:=.int .i64 A.wv) rfl
   have c3:=hx.k.cell 3 (v:=.slice pr A.read.length cr) rfl
   have c4:=hx.k.cell 4 (v:=.slice pl A.locked.length cl) rfl
   have c5:=hx.k.cell 5 (v:=.slice pf A.freed.length cf) rfl
   have c6:=hx.k.cell 6 (v:=.int .i64 A.checked) rfl
   have c7:=hx.k.cell 7 (v:=.slice ps A.stored.length cs) rfl
   have c8:=hx.k.cell 8 (v:=.int .u8 A.why) rfl
   have c9:=hx.k.cell 9 (v:=.int .u8 A.last) rfl
   have z0:=xO.cell 0 (v:=.slice none 0 0) rfl
   have y0:=xO.free 0
   have z1:=xO.cell 1 (v:=.int .i64 0) rfl
   have y1:=xO.free 1
   have z2:=xO.cell 2 (v:=.int .i64 0) rfl
   have y2:=xO.free 2
   have z3:=xO.cell 3 (v:=.slice none 0 0) rfl
   have y3:=xO.free 3
   have z4:=xO.cell 4 (v:=.slice none 0 0) rfl
   have y4:=xO.free 4
   have z5:=xO.cell 5 (v:=.slice none 0 0) rfl
   have y5:=xO.free 5
   have z6:=xO.cell 6 (v:=.int .i64 ((0:Nat):Int)) rfl
   have y6:=xO.free 6
   have z7:=xO.cell 7 (v:=.slice none 0 0) rfl
   have y7:=xO.free 7
   have z8:=xO.cell 8 (v:=.int .u8 0) rfl
   have y8:=xO.free 8
   have z9:=xO.cell 9 (v:=.int .u8 0) rfl
   have y9:=xO.free 9
   have HQ:=hid (Q3 xO (.slice pL A.L.length cL) (.int .i64 A.rv) (.int .i64 A.wv) (.slice pr A.read.length cr) (.slice pl A.locked.length cl) (.slice pf A.freed.length cf) (.int .i64 A.checked) (.slice ps A.stored.length cs) (.int .u8 A.why) (.int .u8 A.last))
   have HTN:=hid (LU (w:=wr) (b:=w.heap.size) (.slice pL A.L.length cL) (.int .i64 A.rv) (.int .i64 A.wv) (.slice pr A.read.length cr) (.slice pl A.locked.length cl) (.slice pf A.freed.length cf) (.int .i64 A.checked) (.slice ps A.stored.length cs) (.int .u8 A.why) (.int .u8 A.last))
   clear hx hz xO eL er el ef es
   go_wp2_with fail
   have hq:=HQ.out
   have q0:=hq.cell 0 (v:=.slice pL A.L.length cL) rfl
   have q1:=hq.cell 1 (v:=.int .i64 A.rv) rfl
   have q2:=hq.cell 2 (v:=.int .i64 A.wv) rfl
   have q3:=hq.cell 3 (v:=.slice pr A.read.length cr) rfl
   have q4:=hq.cell 4 (v:=.slice pl A.locked.length cl) rfl
   have q5:=hq.cell 5 (v:=.slice pf A.freed.length cf) rfl
   have q6:=hq.cell 6 (v:=.int .i64 A.checked) rfl
   have q7:=hq.cell 7 (v:=.slice ps A.stored.length cs) rfl
   have q8:=hq.cell 8 (v:=.int .u8 A.why) rfl
   have q9:=hq.cell 9 (v:=.int .u8 A.last) rfl
   refine bodyPost_ret (v:=.agg (kS A (.slice pL A.L.length cL) (.slice pr A.read.length cr) (.slice pl A.locked.length cl) (.slice pf A.freed.length cf) (.slice ps A.stored.length cs))) (by simp[results,Tryd.results55,go_sem,kS,q0,q1,q2,q3,q4,q5,q6,q7,q8,q9]) rfl ⟨_,_,_,_,_,by rw[←HA.out],Dv.out.trans (HTN.out.below (by simp) Dv.out.size),?_⟩
   rw[←HA.out]
   have hr:=HXE.out.r.turn HTN.out (by omega)
   exact⟨hr.rL.wider (by omega),hr.rr.wider (by omega),hr.rl.wider (by omega),hr.rf.wider (by omega),hr.rs.wider (by omega)⟩
end Go.Proofs.YtcddlnmcjmhbcaaDoor
-- short
