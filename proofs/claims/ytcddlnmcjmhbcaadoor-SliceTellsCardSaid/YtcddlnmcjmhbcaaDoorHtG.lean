/-
  Joined texts: HtH HtW5.
-/
import Derived.Test.YtcddlnmcjmhbcaaDoorHtF
import Derived.Test.YtcddlnmcjmhbcaaDoorHtE
import Derived.Test.YtcddlnmcjmhbcaaDoorRcW3
import Derived.Deep.DeepCutAuto
namespace Go.Proofs.YtcddlnmcjmhbcaaDoor
set_option linter.unusedVariables false
set_option linter.unusedSimpArgs false
open Go Go.RowKit
theorem EH (L:List aH) (H:Nat→Bool→Value) (a:aH) (r u:Value):kK (L++[a]) (fun k b=>if k=L.length then(if b then u else r)else H k b)=kK L H++kP a r u:=by
 unfold kK
 rw[List.length_append,List.length_singleton,List.range_succ,List.flatMap_append]
 congr 1
 ·refine lH _ _ _ fun i hi=>?_
  dsimp only
  rw[if_neg (by omega),if_neg (by omega),List.getD_eq_getElem?_getD,List.getD_eq_getElem?_getD,List.getElem?_append_left hi]
 ·simp
def Aa (W:World) (n₀:Nat) (vo:Value) (L:List aH) (H:Nat→Bool→Value):Prop:=
 bU W n₀ 58 9 vo L.length (kK L H)∧∀ k b,k < L.length→bU W n₀ 61 2 (H k b) (rC (L.getD k aH.zero) b).length (dw (rC (L.getD k aH.zero) b))
theorem Aa.old {W W':World} {n₀:Nat} {vo:Value} {L:List aH} {H:Nat→Bool→Value} (h:Aa W n₀ vo L H) (hb:Below W.heap.size W W'):Aa W' n₀ vo L H:=⟨h.1.old hb,fun k b hk=>(h.2 k b hk).old hb⟩
theorem Aa.nil (W:World) (n₀:Nat) (H:Nat→Bool→Value):Aa W n₀ (.slice none 0 0) [] H:=⟨bU.nil _ _ _ _,fun k b hk=>absurd hk (Nat.not_lt_zero _)⟩
theorem Aa.push {W W2:World} {n₀:Nat} {vo E8:Value} {L:List aH} {H:Nat→Bool→Value} (h:Aa W n₀ vo L H) {a:aH} {r u:Value} (ho:W2.ownsRow n₀ 58 9 E8 (L.length+1) (kK L H++kP a r u)) (hg:W.grownBy W2 vo.ownBlock)
  (hr:bU W n₀ 61 2 r a.reads.length (dw a.reads)) (hu:bU W n₀ 61 2 u a.writes.length (dw a.writes)):Aa W2 n₀ E8 (L++[a]) (fun k b=>if k=L.length then(if b then u else r)else H k b):=by
 have K:∀ {v:Value} {n:Nat} {xs:List Value},bU W n₀ 61 2 v n xs→bU W2 n₀ 61 2 v n xs:=fun hx=>⟨hx.1.kept hg (jy hx.1 h.1.1 (by decide)),hx.2⟩
 refine⟨⟨?_,fun h0=>by simp at h0⟩,fun k b hk=>?_⟩
 ·rw[EH,List.length_append,List.length_singleton];exact ho
 ·by_cases he:k=L.length
  ·subst he
   have:(L++[a]).getD L.length aH.zero=a:=by simp[List.getD_eq_getElem?_getD]
   rw[this]
   dsimp only
   rw[if_pos rfl]
   cases b
   ·exact K hr
   ·exact K hu
  ·have hlt:k < L.length:=by rw[List.length_append,List.length_singleton]at hk;omega
   have:(L++[a]).getD k aH.zero=L.getD k aH.zero:=by rw[List.getD_eq_getElem?_getD,List.getElem?_append_left hlt,←List.getD_eq_getElem?_getD]
   rw[this]
   dsimp only
   rw[if_neg he]
   exact K (h.2 k b hlt)
theorem DW:∀ {l:List (Int×Int)} {i:Nat} (h:i < l.length),(dw l)[i*2]? =some (.int .i64 l[i].1)∧(dw l)[i*2+1]? =some (.int .i64 l[i].2)
 | p :: l,0,_=>⟨rfl,rfl⟩
 | p :: l,i+1,h=>by
  have:=DW (l:=l) (i:=i) (by simpa using h)
  have e:dw (p :: l)=[.int .i64 p.1,.int .i64 p.2]++dw l:=by unfold dw;rw[List.flatMap_cons]
  rw[e,List.getElem?_append_right (by simp;omega),List.getElem?_append_right (by simp;omega)]
  have e1:(i+1)*2- [Value.int .i64 p.1,Value.int .i64 p.2].length=i*2:=by simp;omega
  have e2:(i+1)*2+1- [Value.int .i64 p.1,Value.int .i64 p.2].length=i*2+1:=by simp;omega
  rw[e1,e2];exact this
theorem IB {W:World} {n₀:Nat} {v:Value} {l:List (Int×Int)} (h:W.ownsRow n₀ 61 2 v l.length (dw l)) (hl:l.length≤1048576):Rw W l v:=by
 have h0:=h
 rcases h.2 with⟨rfl,hn⟩ | ⟨g,cap,cur,rfl,hb',hg,h1,h2,h3,h4⟩
 ·exact⟨none,0,by rw[hn],hl,fun hne=>absurd (List.eq_nil_of_length_eq_zero hn) hne⟩
 ·refine⟨_,cap,rfl,hl,fun _=>⟨g,0,rfl,fun k hk=>?_⟩⟩
  obtain⟨e1,e2⟩:=DW hk
  rw[Nat.zero_add]
  exact⟨(h0.cellAt (k*2) (by omega)).trans e1,(h0.cellAt (k*2+1) (by omega)).trans e2⟩
theorem PE {W:World} {n₀:Nat} {v:Value} {L:List aH} {H:Nat→Bool→Value} (h1:W.ownsRow n₀ 58 9 v L.length (kK L H)) (h2:∀ k b,k < L.length→W.ownsRow n₀ 61 2 (H k b) (rC (L.getD k aH.zero) b).length (dw (rC (L.getD k aH.zero) b)))
  (hl:L.length≤1048576) (hp:∀ q∈L,q.reads.length≤1048576∧q.writes.length≤1048576):OX W L v:=by
 have h0:=h1
 rcases h1.2 with⟨rfl,hn⟩ | ⟨g,cap,cur,rfl,hb',hg,q1,q2,q3,q4⟩
 ·exact⟨none,0,by rw[hn],hl,fun hne=>absurd (List.eq_nil_of_length_eq_zero hn) hne⟩
 ·refine⟨_,cap,rfl,hl,fun _=>⟨g,0,rfl,fun k hk=>⟨H k false,H k true,?_⟩⟩⟩
  have hm:=List.getElem_mem hk
  obtain⟨m1,m2⟩:=hp _ hm
  have eD:L.getD k aH.zero=L[k]:=by rw[List.getD_eq_getElem?_getD,List.getElem?_eq_getElem hk];rfl
  have hr:=h2 k false hk
  have hw:=h2 k true hk
  rw[eD]at hr hw
  have hc:∀ j,j < 9→W.cell? ⟨g,0+k*9+j,none⟩=(kP L[k] (H k false) (H k true))[j]?:=fun j hj=>by
   rw[Nat.zero_add,h0.cellAt (k*9+j) (by omega),fO hk hj,eD]
  refine⟨?_,hc 1 (by omega),hc 2 (by omega),hc 3 (by omega),hc 4 (by omega),hc 5 (by omega),hc 6 (by omega),hc 7 (by omega),hc 8 (by omega),IB hr m1,IB hw m2⟩
  have:=hc 0 (by omega)
  rwa [Nat.add_zero]at this
structure FB (f:FR) (n:Nat):Prop where
 r:f.a.reads.length≤n
 u:f.a.writes.length≤n
 lk:0≤f.lk∧f.lk≤n
 gn:0≤f.gn∧f.gn≤n
theorem FB.step {f:FR} {n:Nat} (h:FB f n) (x:Ev):FB (o7 f x) (n+1):=by
 obtain⟨h1,h2,h3,h4⟩:=h
 unfold o7
 repeat' split
 all_goals (constructor <;> (first | omega | (simp;omega) | (dsimp only;omega)))
theorem FB.fold (l:List Ev):∀ (m:List Nat) (f:FR) (n:Nat),FB f n→FB (dK l f m) (n+m.length)
 | [],f,n,h=>h
 | i :: m,f,n,h=>by
  have:=FB.fold l m (o7 f (dL l i)) (n+1) (h.step _)
  rw[List.length_cons,show n+(m.length+1)=n+1+m.length by omega]
  exact this
theorem FB.TS (l:List Ev) (b:Nat) (m:List Nat):FB (dK l (iq l b) m) m.length:=by
 have h0:FB (iq l b) 0:=by
  unfold iq kY
  constructor <;> simp
 have:=FB.fold l m (iq l b) 0 h0
 rwa [Nat.zero_add]at this
theorem GZ {l:List Ev} {f:FR} {m:List Nat} {j:Nat} (hj:j < m.length):dK l f (m.take (j+1))=o7 (dK l f (m.take j)) (dL l m[j]):=by
 rw[List.take_succ_eq_append_getElem hj,zl]
theorem AB (l:List Ev) (b:Nat):(dZ l b).length≤l.length:=sN l b l.length
theorem JU {l:List Ev} {b:Nat} (hb:b < l.length) (hk:(dL l b).kind=1):0 < (dZ l b).length:=
 List.length_pos_of_mem (jY.2 ⟨hb,gz.2 ⟨Nat.le_refl _,rfl,by rw[hk];decide,fun j a1 a2=>by omega⟩⟩)
theorem MW {l:List Ev} {b:Nat} (h:0 < (dZ l b).length):jR l b=(dZ l b)[(dZ l b).length-1]'(by omega):=by
 unfold jR
 rw[List.getLastD_eq_getLast?,List.getLast?_eq_getElem?,List.getElem?_eq_getElem (by omega)];rfl
def JH (l:List Ev) (k:Nat):List aH:=((List.range k).filter (Fe l)).map (iM l)
theorem SA {l:List Ev} {k:Nat} (h:(dL l k).kind≠1):JH l (k+1)=JH l k:=by
 unfold JH
 rw[List.range_succ,List.filter_append,List.filter_cons,List.filter_nil,if_neg (by unfold Fe;simpa using h),List.append_nil]
theorem PU {l:List Ev} {k:Nat} (h:(dL l k).kind=1):JH l (k+1)=JH l k++[iM l k]:=by
 unfold JH
 rw[List.range_succ,List.filter_append,List.filter_cons,List.filter_nil,if_pos (by unfold Fe;simpa using h),List.map_append];rfl
theorem BV (l:List Ev) (k:Nat):(JH l k).length≤k:=by
 unfold JH
 rw[List.length_map]
 have:=List.length_filter_le (Fe l) (List.range k)
 rwa [List.length_range]at this
theorem Oe (l:List Ev) (b:Nat):(iM l b).reads.length≤l.length∧(iM l b).writes.length≤l.length:=by
 have h:=FB.TS l b (dZ l b)
 have h2:=AB l b
 exact⟨Nat.le_trans h.r h2,Nat.le_trans h.u h2⟩
theorem Ei (l:List Ev):∀ (m:List Nat) (f:FR),(dK l f m).a.dI=f.a.dI
 | [],f=>rfl
 | i :: m,f=>by
  show(dK l (o7 f (dL l i)) m).a.dI=_
  rw[Ei l m]
  unfold o7
  repeat' split
  all_goals rfl
theorem Ud {a:aH} (h:a.dI=-1):({ a with dI:=-1 }:aH)=a:=by rw[←h]
theorem EK (a:aH) (p q:Option Addr) (n c n' c':Nat):∀ v∈kP a (.slice p n c) (.slice q n' c'),v.oneCell'=true:=by
 intro v hv
 unfold kP at hv
 simp only[List.mem_cons,List.not_mem_nil,or_false]at hv
 rcases hv with rfl | rfl | rfl | rfl | rfl | rfl | rfl | rfl | rfl <;> rfl
theorem yx (l:List (Int×Int)):∀ u∈dw l,u.oneCell'=true:=by
 intro u hu
 obtain⟨p,-,hp⟩:=List.mem_flatMap.1 hu
 simp only[List.mem_cons,List.not_mem_nil,or_false]at hp
 rcases hp with rfl | rfl <;> rfl
def YZ (T V S:Int) (l:List Ev) (w:World) (e:Ending) (w':World):Prop:=
 ∃ v,e=.returned (.tuple #[v,.int .i64 (aW T V S l).2])∧Below w.heap.size w w'∧OX w' (if(aW T V S l).2=0 then AA l else[]) v
set_option maxRecDepth 100000 in
set_option maxHeartbeats 40000000 in
theorem Px (T V S:Int) (a:Option Addr) (l:List Ev) (cap:Nat) (w:World) (hE:cO w a l) (hl:l.length≤2000) (hcap:l.length≤cap) (hN:kL w):
  Calls Tryd.prog 9 #[oZ T V S a l.length cap] w (YZ T V S l w):=by
 obtain⟨i2,hi2,hx0,hx1,hx2⟩:=info_parts Ed
 obtain⟨i9,hi9,hy0,hy1,hy2⟩:=info_parts IV
 obtain⟨W0,hW0⟩:∃ W0,W0=w.alloc (.cells #[.int .i64 T,.int .i64 V,.int .i64 S,.slice a l.length cap] 24):=⟨_,rfl⟩
 have O3:Hid (aA W0 w.heap.size #[.int .i64 T,.int .i64 V,.int .i64 S,.slice a l.length cap] 24):=hid (by rw[hW0];exact aA.new _ _ _)
 have HB0:Hid (Below w.heap.size w W0):=hid (by rw[hW0];exact ah (af _) _)
 have uG:=hid (fun W (hW:Below w.heap.size w W)=>uJ T V S a l cap W (hE.below hW) (by omega) hcap (hN.below hW))
 have ZN:=hid (fun W (hW:Below w.heap.size w W) b hb=>yH T V S a l cap W (hE.below hW) (by omega) b hb)
 have HE:=hid hE
 have HL:=hid hl
 obtain⟨Q,hQ⟩:∃ Q,Q=YZ T V S l w:=⟨_,rfl⟩
 obtain⟨p,q,hpq⟩:∃ p q,aW T V S l=(p,q):=⟨_,_,rfl⟩
 have HP:Hid (∀ v W',Below w.heap.size w W'→OX W' (if q=0 then AA l else[]) v→Q (.returned (.tuple #[v,.int .i64 q])) W'):=hid (by
  intro v W' h1 h2
  rw[hQ]
  refine⟨v,by rw[hpq],h1,by rw[hpq];exact h2⟩)
 rw[←hQ]
 rw[hpq]at uG
 clear hE hl hcap hN hQ hpq
 unfold oZ at*
 dsimp only at uG
 go_enter Tryd.func9,Tryd.ntmps9
 go_wp2_with fail
 rw[←hW0]
 clear hW0
 refine(uG.out _ HB0.out).mono ?_
 rintro e' w1 ⟨rfl,hb1⟩
 have HB1:=hid (ag HB0.out hb1)
 have xH:=hid (O3.out.below hb1)
 clear hb1 O3 uG
 by_cases hq:q=0
 case neg=>
  have q1:(q==0)=false:=by simpa using hq
  have q2:(q !=0)=true:=by simpa using hq
  have HQ:=hid hq
  clear hq
  go_wp2_with fail
  exact HP.out _ _ HB1.out (by rw[if_neg HQ.out];exact⟨none,0,rfl,by simp,fun h=>absurd rfl h⟩)
 subst hq
 go_wp2_with fail
 go_loopw [6,7] (fun y i wr=>∃ (k:Nat) (H:Nat→Bool→Value),k≤l.length∧i=.int .i64 (k:Int)∧Hid (Aa wr w1.heap.size y (JH l k) H)∧Hid (Below w1.heap.size w1 wr)) (fun _ i _=>l.length-(intOf i).toNat)
 case atStart=>exact⟨0,fun _ _=>undef,Nat.zero_le _,rfl,hid (Aa.nil _ _ _),hid (af _)⟩
 case round=>
  obtain⟨k,H,hk,rfl,HAT,fB⟩:=hrel
  obtain⟨Wk,rfl⟩:∃ W,W=wr:=⟨_,rfl⟩
  obtain⟨py,cy,hyv⟩:=HAT.out.1.shape
  subst hyv
  have y0:=(xH.out.below fB.out).cell 0 (v:=.int .i64 T) rfl
  have y1:=(xH.out.below fB.out).cell 1 (v:=.int .i64 V) rfl
  have y2:=(xH.out.below fB.out).cell 2 (v:=.int .i64 S) rfl
  have y3:=(xH.out.below fB.out).cell 3 (v:=.slice a l.length cap) rfl
  by_cases hlt:k < l.length
  case neg=>
   obtain rfl:k=l.length:=by omega
   have hk1:decide ((l.length:Int) < (l.length:Int))=false:=decide_eq_false (by omega)
   clear hlt hk
   go_wp2_with fail
   refine HP.out (.slice py (JH l l.length).length cy) _ (ag HB1.out fB.out) ?_
   rw[if_pos trivial]
   have h1:=HAT.out
   have h2:=BV l l.length
   exact PE h1.1.1 (fun k b hk=>(h1.2 k b hk).1) (by have:=HL.out;show(JH l l.length).length≤_;omega) (fun q hq=>by
    obtain⟨b,-,rfl⟩:=List.mem_map.1 hq
    have:=Oe l b
    have:=HL.out
    omega)
  obtain⟨bl,o,rfl,hc⟩:=XA HE.out (by intro h;rw[h]at hlt;simp at hlt)
  obtain⟨c0,c1,c2,c3,c4,c5,c6⟩:=hc Wk (ag HB1.out fB.out) k hlt
  have HC:=hid hc
  have HK:Hid (dL l k=l[k]):=hid (sS hlt)
  generalize l[k]=x at c0 c1 c2 c3 c4 c5 c6 HK
  obtain⟨kind,iW,etx,eat,ev,ex,V9⟩:=x
  dsimp only at c0 c1 c2 c3 c4 c5 c6
  have hk0:(0:Int)≤(k:Int):=by omega
  have hk1:decide ((k:Int) < (l.length:Int))=true:=decide_eq_true (by omega)
  have hk3:decide (k < l.length)=true:=decide_eq_true hlt
  have hk5:(k:Int) < (l.length:Int):=by omega
  have hk4:IntKind.i64.wrap ((k:Int)+1)=(k:Int)+1:=IntWalk.i64_in _ (by have:=HL.out;omega)
  have WO:=hid hk4
  have bf:=hid hlt
  clear hlt hk hc
  by_cases t:kind=1
  case neg=>
   have x1:(kind==1)=false:=by simp[t]
   have x2:(kind !=1)=true:=by simp[t]
   have HZ:=hid (SA (l:=l) (k:=k) (by rw[HK.out];exact t))
   clear t
   go_wp2_with fail
   go_roundw
   case rel=>exact⟨k+1,H,bf.out,by go_num,hid (by rw[HZ.out];exact HAT.out.old (ah (af _) _)),hid (ah fB.out _)⟩
   case measure=>simp[intOf];have:=bf.out;omega
  subst t
  have x1:((1:Int)==1)=true:=rfl
  have HZ:=hid (PU (l:=l) (k:=k) (by rw[HK.out]))
  have WH:=hid (JU (l:=l) (b:=k) bf.out (by rw[HK.out]))
  have Oz:=hid (AB l k)
  have Lc:Hid ((dZ l k)[(dZ l k).length-1]? =some (jR l k)):=hid (by rw[List.getElem?_eq_getElem (by have:=WH.out;omega),MW WH.out])
  have Vd:Hid (iq l k=⟨⟨iW,etx,k,-1,ev,0,false,[],[]⟩,0,0⟩):=hid (by unfold iq kY;rw[HK.out])
  have XL:Hid (∀ i∈dZ l k,i < l.length):=hid (fun i hi=>(jY.1 hi).1)
  have ly:=lt_of_cell y0
  go_wp2_with fail
  obtain⟨WA,V3⟩:∃ WA,WA=(Wk.alloc (.cells #[.int .u8 1,.int .i64 iW,.int .i64 etx,.int .i64 eat,.int .i64 ev,.int .i64 ex,.int .u8 V9] 49)).alloc (.cells #[.int .i64 iW,.int .i64 etx,.int .i64 (k:Int),.int .i64 (-1),.int .i64 ev,.int .i64 0,.bool false,.slice none 0 0,.slice none 0 0] 58):=⟨_,rfl⟩
  obtain⟨A,hA⟩:∃ A,A=Wk.heap.size+1:=⟨_,rfl⟩
  have HKA:Hid (aA WA A #[.int .i64 iW,.int .i64 etx,.int .i64 (k:Int),.int .i64 (-1),.int .i64 ev,.int .i64 0,.bool false,.slice none 0 0,.slice none 0 0] 58):=hid (by rw[V3,hA];exact aA.new' _ _ _ (by rw[World.size_alloc]))
  have RS:Hid (Below Wk.heap.size Wk WA):=hid (by rw[V3];exact ah (ah (af _) _) _)
  have Zf:Hid (WA.heap.size=A+1):=hid (by rw[V3,hA,World.size_alloc,World.size_alloc])
  rw[←V3,←hA]
  have Jj:=hid hA
  clear V3 hA
  refine(ZN.out WA (ag HB1.out (ag fB.out RS.out)) k bf.out).mono ?_
  rintro e' w5 ⟨v,rfl,hb5,hr⟩
  obtain⟨g,cg,rfl,hg,hcg⟩:=yj hr WH.out
  have LD:Hid (g≠A):=hid (by have:=Zf.out;omega)
  have WN:=hid (HKA.out.below hb5)
  have Xg:=hid (ag RS.out hb5)
  have HS5:Hid (A < w5.heap.size):=hid (by have:=Zf.out;have:=hb5.size;omega)
  have HGL:Hid (g < w5.heap.size):=hid (lt_of_cell (hcg 0 WH.out))
  have O1:=hid hcg
  have HR0:Hid (iM l k={ (dK l (iq l k) (dZ l k)).a with dI:=if ku (dL l (jR l k)).kind (dK l (iq l k) (dZ l k)).lk (dK l (iq l k) (dZ l k)).gn=true then(jR l k:Int)else -1 }):=hid rfl
  have WL:Hid (jR l k < l.length):=hid (XL.out _ (List.mem_of_getElem? Lc.out))
  clear hb5 hr hg hcg c0 c1 c2 c3 c4 c5 c6 y0 y1 y2 y3 ly HKA RS Zf hk0 hk1 hk3 hk5 hk4 x1 HK
  generalize dZ l k=m at*
  go_wp2_with fail
  go_loopw [11,12,13] (fun s1 s2 i wq=>∃ (j:Nat) (r u:Value),j≤m.length∧i=.int .i64 (j:Int)∧s1=.int .i64 (dK l (iq l k) (m.take j)).lk∧s2=.int .i64 (dK l (iq l k) (m.take j)).gn∧Hid (aA wq A (xB (dK l (iq l k) (m.take j)).a r u) 58)∧Hid (bU wq (A+1) 61 2 r (dK l (iq l k) (m.take j)).a.reads.length (dw (dK l (iq l k) (m.take j)).a.reads))∧Hid (bU wq (A+1) 61 2 u (dK l (iq l k) (m.take j)).a.writes.length (dw (dK l (iq l k) (m.take j)).a.writes))∧Hid (Turn [A] w5 wq)∧Hid (Below Wk.heap.size Wk wq)) (fun _ _ i _=>m.length-(intOf i).toNat)
  case atStart=>
   have h0:dK l (iq l k) (m.take 0)=iq l k:=rfl
   refine⟨0,.slice none 0 0,.slice none 0 0,Nat.zero_le _,rfl,by rw[h0,Vd.out],by rw[h0,Vd.out],hid ?_,hid ?_,hid ?_,hid (Turn.refl _ _),Xg⟩
   ·rw[h0,Vd.out];exact WN.out
   ·rw[h0,Vd.out];exact bU.nil _ _ _ _
   ·rw[h0,Vd.out];exact bU.nil _ _ _ _
  case round=>
   clear WN Xg
   obtain⟨j,r,u,hj,rfl,rfl,rfl,QS,HRR,Uj,Ws,UN⟩:=hrel
   obtain⟨ra,zO,qL⟩:=HRR.out.shape
   obtain⟨ua,zN,huv⟩:=Uj.out.shape
   subst qL huv
   have y3:=(xH.out.below (ag fB.out UN.out)).cell 3 (v:=.slice (some ⟨bl,o,none⟩) l.length cap) rfl
   by_cases hjl:j < m.length
   ·have r0:=Ws.out.cell (k:=g) (o:=j) (by simpa using LD.out) (O1.out j hjl)
    have HX:Hid (m[j] < l.length):=hid (XL.out _ (List.getElem_mem hjl))
    have QV:=hid (GZ (l:=l) (f:=iq l k) hjl)
    have OC:Hid (FB (dK l (iq l k) (m.take j)) j):=hid (by have:=FB.TS l k (m.take j);rwa [List.length_take,Nat.min_eq_left hj]at this)
    generalize m[j]=x at r0 HX QV
    obtain⟨d0,d1,d2,d3,d4,d5,d6⟩:=HC.out wr (ag HB1.out (ag fB.out UN.out)) x HX.out
    have HEX:Hid (dL l x=l[x]'HX.out):=hid (sS HX.out)
    generalize l[x]'HX.out=X at d0 d1 d2 d3 d4 d5 d6 HEX
    obtain⟨kd,Vj,LQ,at',v',x',why'⟩:=X
    dsimp only at d0 d1 d2 d3 d4 d5 d6
    rw[HEX.out]at QV
    generalize dK l (iq l k) (m.take j)=f at*
    have j0:(0:Int)≤(j:Int):=by omega
    have j1:decide ((j:Int) < (m.length:Int))=true:=decide_eq_true (by omega)
    have j2:decide (j < m.length)=true:=decide_eq_true hjl
    have j3:(j:Int) < (m.length:Int):=by omega
    have J4:Hid (IntKind.i64.wrap ((j:Int)+1)=(j:Int)+1):=hid (IntWalk.i64_in _ (by have:=Oz.out;have:=HL.out;omega))
    have WQ:Hid (j≤2000):=hid (by have:=Oz.out;have:=HL.out;omega)
    have v0:(0:Int)≤(x:Int):=by omega
    have v1:(x:Int) < (l.length:Int):=by have:=HX.out;omega
    have v2:decide (x < l.length)=true:=decide_eq_true HX.out
    have HJ:=hid hjl
    clear hjl hj
    go_wp2_with fail
    apply ni (By wr 8 (fun i=>[.pointer (some ⟨w.heap.size,3,none⟩),.slice (some ⟨bl,o,none⟩) l.length cap,.slice (some ⟨g,0,none⟩) m.length cg,.int .i64 (j:Int),.pointer (some ⟨g,j,none⟩),.int .i64 (x:Int),.pointer (some ⟨bl,o+x*7,none⟩),.agg #[.int .u8 kd,.int .i64 Vj,.int .i64 LQ,.int .i64 at',.int .i64 v',.int .i64 x',.int .u8 why']].getD i undef) #[.int .u8 kd,.int .i64 Vj,.int .i64 LQ,.int .i64 at',.int .i64 v',.int .i64 x',.int .u8 why'] 49)
    focus (intro vals;simp[ay,aB,Act.put];rfl)
    case hm=>kernel_rfl
    case hd=>kernel_rfl
    case hb=>kernel_rfl
    case iR=>kernel_rfl
    case hsz=>kernel_rfl
    case jf=>exact fun l l' v w' h H=>H.ext h
    case h0=>exact By.start (aj (af _))
    case hstep=>
     refine⟨?_,?_,?_,?_,?_,?_,?_,?_,?_,?_,trivial⟩
     all_goals (
      intro l1 vs w' hi hd hJ
      refine⟨(fun g b h=>by cases h),fun _ ρ h1 h2 h3 h4 h5=>?_⟩)
     ·have f1:=h5 1 (by kernel_rfl)
      have Dh:=hid hJ
      clear hJ
      unfold aO
      go_simp
      exact By.get 0 (by omega) Dh.out
     ·have fa:=(h4 0 57 (by kernel_rfl) (by kernel_rfl)).trans (hJ.rJ 0 (by omega) (hd 0 (by kernel_rfl)))
      dsimp only[List.getD,List.getElem?_cons_zero,List.getElem?_cons_succ,Option.getD]at fa
      have z3:=later hJ.mid y3
      have Dh:=hid hJ
      clear hJ
      unfold aO
      go_simp
      exact By.get 1 (by omega) Dh.out
     ·have f1:=h5 10 (by kernel_rfl)
      have Dh:=hid hJ
      clear hJ
      unfold aO
      go_simp
      exact By.get 2 (by omega) Dh.out
     ·have f1:=h5 13 (by kernel_rfl)
      have Dh:=hid hJ
      clear hJ
      unfold aO
      go_simp
      exact By.get 3 (by omega) Dh.out
     ·have fa:=(h4 2 59 (by kernel_rfl) (by kernel_rfl)).trans (hJ.rJ 2 (by omega) (hd 2 (by kernel_rfl)))
      have fb:=(h4 3 60 (by kernel_rfl) (by kernel_rfl)).trans (hJ.rJ 3 (by omega) (hd 3 (by kernel_rfl)))
      dsimp only[List.getD,List.getElem?_cons_zero,List.getElem?_cons_succ,Option.getD]at fa fb
      have Dh:=hid hJ
      clear hJ
      unfold aO
      go_simp
      exact By.get 4 (by omega) Dh.out
     ·have fa:=(h4 4 61 (by kernel_rfl) (by kernel_rfl)).trans (hJ.rJ 4 (by omega) (hd 4 (by kernel_rfl)))
      dsimp only[List.getD,List.getElem?_cons_zero,List.getElem?_cons_succ,Option.getD]at fa
      have z3:=later hJ.mid r0
      have Dh:=hid hJ
      clear hJ
      unfold aO
      go_simp
      exact By.get 5 (by omega) Dh.out
     ·have fa:=(h4 1 58 (by kernel_rfl) (by kernel_rfl)).trans (hJ.rJ 1 (by omega) (hd 1 (by kernel_rfl)))
      have fb:=(h4 5 62 (by kernel_rfl) (by kernel_rfl)).trans (hJ.rJ 5 (by omega) (hd 5 (by kernel_rfl)))
      dsimp only[List.getD,List.getElem?_cons_zero,List.getElem?_cons_succ,Option.getD]at fa fb
      have Dh:=hid hJ
      clear hJ
      unfold aO
      go_simp
      exact By.get 6 (by omega) Dh.out
     ·have fa:=(h4 6 63 (by kernel_rfl) (by kernel_rfl)).trans (hJ.rJ 6 (by omega) (hd 6 (by kernel_rfl)))
      dsimp only[List.getD,List.getElem?_cons_zero,List.getElem?_cons_succ,Option.getD]at fa
      have x0:=later hJ.mid d0
      have x1:=later hJ.mid d1
      have x2:=later hJ.mid d2
      have x3:=later hJ.mid d3
      have x4:=later hJ.mid d4
      have x5:=later hJ.mid d5
      have x6:=later hJ.mid d6
      have Dh:=hid hJ
      clear hJ
      unfold aO
      go_simp
      exact By.get 7 (by omega) Dh.out
     ·skip
      have Dh:=hid hJ
      clear hJ
      unfold aO
      go_simp
      exact By.alloc rfl hi Dh.out
     ·have g1:=hd 8 (by kernel_rfl)
      have g2:=hJ.rJ 7 (by omega) (hd 7 (by kernel_rfl))
      obtain⟨b,cs,g3,g4,g5,g6,-⟩:=hJ.xm g1
      obtain⟨z0,z1,z2,z3,z4,z5,z6,rfl⟩:=Rt g6
      have f1:=(h4 8 14 (by kernel_rfl) (by kernel_rfl)).trans g3
      have f2:=(h4 7 64 (by kernel_rfl) (by kernel_rfl)).trans g2
      dsimp only[List.getD,List.getElem?_cons_zero,List.getElem?_cons_succ,Option.getD]at f2
      have HH:=hid g5
      have s0:=HH.out.free 0
      have s1:=HH.out.free 1
      have s2:=HH.out.free 2
      have s3:=HH.out.free 3
      have s4:=HH.out.free 4
      have s5:=HH.out.free 5
      have s6:=HH.out.free 6
      have t0:=HH.out.cell 0 (v:=z0) rfl
      have t1:=HH.out.cell 1 (v:=z1) rfl
      have t2:=HH.out.cell 2 (v:=z2) rfl
      have t3:=HH.out.cell 3 (v:=z3) rfl
      have t4:=HH.out.cell 4 (v:=z4) rfl
      have t5:=HH.out.cell 5 (v:=z5) rfl
      have t6:=HH.out.cell 6 (v:=z6) rfl
      have G3:=hid g3
      clear g2 g3 g5
      have Dh:=hid hJ
      clear hJ
      unfold aO
      go_simp
      exact By.store b rfl g1 G3.out Dh.out
    case hdone=>
     intro vs w6 hJ
     obtain⟨b0,cs0,e0,g0,k0,-,z0⟩:=hJ.xm rfl
     obtain rfl:=z0 rfl
     have e0:vs 8=_:=e0
     rw[e0]
     have WI:=hid hJ.mid
     have Le:Hid (aA w6 b0 #[.int .u8 kd,.int .i64 Vj,.int .i64 LQ,.int .i64 at',.int .i64 v',.int .i64 x',.int .u8 why'] 49):=hid k0
     have q0:=Le.out.cell 0 (v:=.int .u8 kd) rfl
     have q3:=Le.out.cell 3 (v:=.int .i64 at') rfl
     have q5:=Le.out.cell 5 (v:=.int .i64 x') rfl
     have lq:=Le.out.lt
     clear hJ e0 k0 z0 d0 d1 d2 d3 d4 d5 d6 r0 y3 v0 v1 v2 j0 j1 j2 j3
     go_upto_block 4 with(fail)
     obtain⟨W7,TE⟩:∃ W7,W7=w6.alloc (.cells #[.int .i64 at',.int .i64 x'] 61):=⟨_,rfl⟩
     obtain⟨B7,YL⟩:∃ B7,B7=w6.heap.size:=⟨_,rfl⟩
     have HPV:Hid (aA W7 B7 #[.int .i64 at',.int .i64 x'] 61):=hid (by rw[TE,YL];exact aA.new _ _ _)
     have hbe:Below wr.heap.size wr W7:=by rw[TE];exact ah WI.out _
     have XQ:Hid (aA W7 b0 #[.int .u8 kd,.int .i64 Vj,.int .i64 LQ,.int .i64 at',.int .i64 v',.int .i64 x',.int .u8 why'] 49):=hid (by rw[TE];exact Le.out.alloc _)
     have Df:=hid (QS.out.below hbe)
     unfold xB at Df
     have Lt:=hid (HRR.out.old hbe)
     have QG:=hid (Uj.out.old hbe)
     have QH:=hid (Ws.out.trans (Turn.of_below hbe))
     have Ji:=hid (ag UN.out hbe)
     have HW7:Hid (A+1≤W7.heap.size):=hid (by have:=QS.out.lt;have:=hbe.size;omega)
     rw[←TE,←YL]
     clear TE YL hbe q0 q3 q5 lq Le WI QS HRR Uj Ws UN
     have j4:=J4.out
     by_cases k3:kd=3
     ·subst k3
      have ig:Hid (dK l (iq l k) (m.take (j+1))={ f with a:={ f.a with reads:=f.a.reads++[(at',x')] } }):=hid (by rw[QV.out];unfold o7;simp)
      have mV:Hid (f.a.reads.length≤1048576):=hid (by have:=OC.out.r;have:=WQ.out;omega)
      go_wp2_with fail
      apply eX A 7 61 2 (#[.int .i64 f.a.th,.int .i64 f.a.tx,.int .i64 f.a.from_,.int .i64 f.a.dI,.int .i64 f.a.rv,.int .i64 f.a.wv,.bool f.a.com,.slice ra f.a.reads.length zO,.slice ua f.a.writes.length zN]) 58 (f.a.reads.length) (dw f.a.reads) [.int .i64 at',.int .i64 x'] [1,2,4,7] (fun i=>if i=1 then .pointer (some ⟨A,7,none⟩)else if i=2 then .slice ra f.a.reads.length zO else if i=4 then .agg #[.int .i64 at',.int .i64 x']else .pointer (some ⟨A,7,none⟩)) 0 3 5 6 8
      case hp=>exact⟨by decide,by decide,by decide⟩
      focus (intro vals;simp[ay,aB,Act.put];rfl)
      case hm=>kernel_rfl
      case hd=>kernel_rfl
      case hb=>kernel_rfl
      case iR=>kernel_rfl
      case hsz=>kernel_rfl
      case h12=>kernel_rfl
      case hstep=>
       refine⟨?_,?_,?_,?_,?_,?_,?_,?_,?_,trivial⟩
       all_goals (
        intro l1 vz w' hi hd hJ
        refine⟨(fun g b h=>by cases h),fun _ ρ h1 h2 h3 h4 h5=>?_⟩
        have HQ:=hid hJ
        clear hJ)
       ·have hlow:=HQ.out.low (HQ.out.not (by omega) hi)
        clear h4 h5
        unfold aO
        go_simp
        exact HQ.out.put ⟨by decide,by decide,by decide⟩ 0 (by decide) hi (ah (af _) _) (fun h=>absurd h (by decide)) (fun _=>⟨_,rfl,World.ownsRow_made w' #[] 0 hlow.size (by decide) rfl⟩) (fun h=>absurd h (by decide)) (fun h=>absurd h (by decide))
       ·have f9:=h5 9 (by kernel_rfl)
        clear h4 h5
        unfold aO
        go_simp
        exact HQ.out.put ⟨by decide,by decide,by decide⟩ 1 (by decide) hi (af _) (fun _=>rfl) (fun h=>absurd h (by decide)) (fun h=>absurd h (by decide)) (fun h=>absurd h (by decide))
       ·have hlow:=HQ.out.low (HQ.out.not (by omega) hi)
        have c:=(Df.out.below hlow).cell 7 (v:=.slice ra f.a.reads.length zO) rfl
        have f75:ρ (.tmp 75)=(.pointer (some ⟨A,7,none⟩)):=(h4 1 75 (by kernel_rfl) (by kernel_rfl)).trans (HQ.out.kn 1 (by decide) (hd 1 (by kernel_rfl)))
        clear h4 h5
        unfold aO
        go_simp
        exact HQ.out.put ⟨by decide,by decide,by decide⟩ 2 (by decide) hi (af _) (fun _=>rfl) (fun h=>absurd h (by decide)) (fun h=>absurd h (by decide)) (fun h=>absurd h (by decide))
       ·have hlow:=HQ.out.low (HQ.out.not (by omega) hi)
        obtain⟨g1,hv1,hown⟩:=HQ.out.e1 (hd 0 (by kernel_rfl)) hi
        have f1:=(h4 0 74 (by kernel_rfl) (by kernel_rfl)).trans hv1
        have f4:ρ (.tmp 76)=(.slice ra f.a.reads.length zO):=(h4 2 76 (by kernel_rfl) (by kernel_rfl)).trans (HQ.out.kn 2 (by decide) (hd 2 (by kernel_rfl)))
        rw[hv1]at hown
        obtain⟨v',w'',hrun,hb',hown'⟩:=lG w' W7.heap.size 56 56 61 i2 _ 2 16 Tryd.underlying56 hi2 hx0 hx1 hx2 rfl (by decide) ⟨g1,0,none⟩ hown (.slice ra f.a.reads.length zO) _ _ (Lt.out.old hlow) (yx _) (by have:=mV.out;unfold maxLen;omega) (by have:=mV.out;omega) hlow.size
        refine bW rfl f1 f4 hrun ?_
        exact HQ.out.put ⟨by decide,by decide,by decide⟩ 3 (by decide) hi hb' (fun h=>absurd h (by decide)) (fun h=>absurd h (by decide)) (fun _=>hown') (fun h=>absurd h (by decide))
       ·have hlow:=HQ.out.low (HQ.out.not (by omega) hi)
        have hq:=HPV.out.below hlow
        have c0:=hq.cell 0 rfl
        have c1:=hq.cell 1 rfl
        clear hq
        have f15:=h5 15 (by kernel_rfl)
        clear h4 h5
        unfold aO
        go_simp
        exact HQ.out.put ⟨by decide,by decide,by decide⟩ 4 (by decide) hi (af _) (fun _=>rfl) (fun h=>absurd h (by decide)) (fun h=>absurd h (by decide)) (fun h=>absurd h (by decide))
       ·have f78:ρ (.tmp 78)=(.agg #[.int .i64 at',.int .i64 x']):=(h4 4 78 (by kernel_rfl) (by kernel_rfl)).trans (HQ.out.kn 4 (by decide) (hd 4 (by kernel_rfl)))
        clear h4 h5
        unfold aO
        go_simp
        exact HQ.out.put ⟨by decide,by decide,by decide⟩ 5 (by decide) hi (ah (af _) _) (fun h=>absurd h (by decide)) (fun h=>absurd h (by decide)) (fun h=>absurd h (by decide)) (fun _=>⟨_,rfl,fun j u hu=>(aA.new _ _ _).cell j (by simpa using hu)⟩)
       ·have hlow:=HQ.out.low (HQ.out.not (by omega) hi)
        obtain⟨g8,Gu,c8⟩:=HQ.out.e8 (hd 5 (by kernel_rfl)) hi
        have e5:=HQ.out.e5 (hd 3 (by kernel_rfl)) hi
        have f5:ρ (.tmp 77)=vz 3:=h4 3 77 (by kernel_rfl) (by kernel_rfl)
        have f8:=(h4 5 79 (by kernel_rfl) (by kernel_rfl)).trans Gu
        obtain⟨v',w'',hrun,hown',hg,-,-⟩:=run_append_own_at w' W7.heap.size 56 56 61 i2 _ 2 16 Tryd.underlying56 hi2 hx0 hx1 hx2 rfl (by decide) (vz 3) _ _ e5 ⟨g8,0,none⟩ 1 1 [.int .i64 at',.int .i64 x'] rfl (fun j u hu=>by rw[add0];exact c8 j u hu) (by intro u hu;simp at hu;rcases hu with rfl | rfl <;> rfl) (by have:=mV.out;unfold maxLen;omega) (by have:=mV.out;omega) hlow.size
        refine bW rfl f5 f8 hrun ?_
        exact HQ.out.DU ⟨by decide,by decide,by decide⟩ hi (hd 3 (by kernel_rfl)) hg hown'
       ·have f9:=h5 9 (by kernel_rfl)
        clear h4 h5
        unfold aO
        go_simp
        exact HQ.out.put ⟨by decide,by decide,by decide⟩ 7 (by decide) hi (af _) (fun _=>rfl) (fun h=>absurd h (by decide)) (fun h=>absurd h (by decide)) (fun h=>absurd h (by decide))
       ·have hlow:=HQ.out.low hi
        have hq:=Df.out.below hlow
        have c:=hq.cell 7 (v:=.slice ra f.a.reads.length zO) rfl
        have z:=hq.free 7
        clear hq
        have f10:ρ (.tmp 81)=(.pointer (some ⟨A,7,none⟩)):=(h4 7 81 (by kernel_rfl) (by kernel_rfl)).trans (HQ.out.kn 7 (by decide) (hd 7 (by kernel_rfl)))
        obtain⟨g9,c9,ug⟩:=fA (HQ.out.e9 (hd 6 (by kernel_rfl)) hi)
        have f9:=(h4 6 80 (by kernel_rfl) (by kernel_rfl)).trans ug
        have Ii:=hid ug
        clear ug
        have hall:∀ i,i < 8→l1 i=true:=fun i hi=>by
         rcases i with _ | _ | _ | _ | _ | _ | _ | _ | i
         ·exact hd 0 (by kernel_rfl)
         ·exact hd 1 (by kernel_rfl)
         ·exact hd 2 (by kernel_rfl)
         ·exact hd 3 (by kernel_rfl)
         ·exact hd 4 (by kernel_rfl)
         ·exact hd 5 (by kernel_rfl)
         ·exact hd 6 (by kernel_rfl)
         ·exact hd 7 (by kernel_rfl)
         ·omega
        have uB:=hid hall
        clear hall h4 h5
        unfold aO
        go_simp
        have h:=HQ.out.DN ⟨by decide,by decide,by decide⟩ Df.out hi uB.out
        rw[Ii.out]at h
        exact h
      case hdone=>
       rintro vals W9 ⟨v9,yV,NL,NH⟩
       have uD:Hid (aA W9 A (xB { f.a with reads:=f.a.reads++[(at',x')] } v9 (.slice ua f.a.writes.length zN)) 58):=hid (by simpa[xB]using NL)
       have oV:Hid (bU W9 (A+1) 61 2 v9 (f.a.reads++[(at',x')]).length (dw (f.a.reads++[(at',x')]))):=hid (by have:=NH.wider (base':=A+1) HW7.out;rw[rD,List.length_append];exact this)
       have Y9:=hid (QG.out.turn yV (by simp))
       have Zb:=hid (QH.out.trans yV)
       have Bq:=hid (Ji.out.trans (yV.below (B:=Wk.heap.size) (by have:=Jj.out;simp;omega) (by have:=Ji.out.size;omega)))
       clear yV NL NH Df Lt QG QH Ji
       go_wp2_with fail
       go_roundw
       case rel=>exact⟨j+1,v9,_,HJ.out,by go_num,by rw[ig.out],by rw[ig.out],hid (by rw[ig.out];exact uD.out),hid (by rw[ig.out];exact oV.out),hid (by rw[ig.out];exact Y9.out),Zb,Bq⟩
       case measure=>simp[intOf];have:=HJ.out;omega
     by_cases k8:kd=8
     ·subst k8
      have ig:Hid (dK l (iq l k) (m.take (j+1))={ f with a:={ f.a with writes:=f.a.writes++[(at',x')] } }):=hid (by rw[QV.out];unfold o7;simp)
      have mV:Hid (f.a.writes.length≤1048576):=hid (by have:=OC.out.u;have:=WQ.out;omega)
      go_wp2_with fail
      apply eX A 8 61 2 (#[.int .i64 f.a.th,.int .i64 f.a.tx,.int .i64 f.a.from_,.int .i64 f.a.dI,.int .i64 f.a.rv,.int .i64 f.a.wv,.bool f.a.com,.slice ra f.a.reads.length zO,.slice ua f.a.writes.length zN]) 58 (f.a.writes.length) (dw f.a.writes) [.int .i64 at',.int .i64 x'] [1,2,4,7] (fun i=>if i=1 then .pointer (some ⟨A,8,none⟩)else if i=2 then .slice ua f.a.writes.length zN else if i=4 then .agg #[.int .i64 at',.int .i64 x']else .pointer (some ⟨A,8,none⟩)) 0 3 5 6 8
      case hp=>exact⟨by decide,by decide,by decide⟩
      focus (intro vals;simp[ay,aB,Act.put];rfl)
      case hm=>kernel_rfl
      case hd=>kernel_rfl
      case hb=>kernel_rfl
      case iR=>kernel_rfl
      case hsz=>kernel_rfl
      case h12=>kernel_rfl
      case hstep=>
       refine⟨?_,?_,?_,?_,?_,?_,?_,?_,?_,trivial⟩
       all_goals (
        intro l1 vz w' hi hd hJ
        refine⟨(fun g b h=>by cases h),fun _ ρ h1 h2 h3 h4 h5=>?_⟩
        have HQ:=hid hJ
        clear hJ)
       ·have hlow:=HQ.out.low (HQ.out.not (by omega) hi)
        clear h4 h5
        unfold aO
        go_simp
        exact HQ.out.put ⟨by decide,by decide,by decide⟩ 0 (by decide) hi (ah (af _) _) (fun h=>absurd h (by decide)) (fun _=>⟨_,rfl,World.ownsRow_made w' #[] 0 hlow.size (by decide) rfl⟩) (fun h=>absurd h (by decide)) (fun h=>absurd h (by decide))
       ·have f9:=h5 9 (by kernel_rfl)
        clear h4 h5
        unfold aO
        go_simp
        exact HQ.out.put ⟨by decide,by decide,by decide⟩ 1 (by decide) hi (af _) (fun _=>rfl) (fun h=>absurd h (by decide)) (fun h=>absurd h (by decide)) (fun h=>absurd h (by decide))
       ·have hlow:=HQ.out.low (HQ.out.not (by omega) hi)
        have c:=(Df.out.below hlow).cell 8 (v:=.slice ua f.a.writes.length zN) rfl
        have f85:ρ (.tmp 85)=(.pointer (some ⟨A,8,none⟩)):=(h4 1 85 (by kernel_rfl) (by kernel_rfl)).trans (HQ.out.kn 1 (by decide) (hd 1 (by kernel_rfl)))
        clear h4 h5
        unfold aO
        go_simp
        exact HQ.out.put ⟨by decide,by decide,by decide⟩ 2 (by decide) hi (af _) (fun _=>rfl) (fun h=>absurd h (by decide)) (fun h=>absurd h (by decide)) (fun h=>absurd h (by decide))
       ·have hlow:=HQ.out.low (HQ.out.not (by omega) hi)
        obtain⟨g1,hv1,hown⟩:=HQ.out.e1 (hd 0 (by kernel_rfl)) hi
        have f1:=(h4 0 84 (by kernel_rfl) (by kernel_rfl)).trans hv1
        have f4:ρ (.tmp 86)=(.slice ua f.a.writes.length zN):=(h4 2 86 (by kernel_rfl) (by kernel_rfl)).trans (HQ.out.kn 2 (by decide) (hd 2 (by kernel_rfl)))
        rw[hv1]at hown
        obtain⟨v',w'',hrun,hb',hown'⟩:=lG w' W7.heap.size 56 56 61 i2 _ 2 16 Tryd.underlying56 hi2 hx0 hx1 hx2 rfl (by decide) ⟨g1,0,none⟩ hown (.slice ua f.a.writes.length zN) _ _ (QG.out.old hlow) (yx _) (by have:=mV.out;unfold maxLen;omega) (by have:=mV.out;omega) hlow.size
        refine bW rfl f1 f4 hrun ?_
        exact HQ.out.put ⟨by decide,by decide,by decide⟩ 3 (by decide) hi hb' (fun h=>absurd h (by decide)) (fun h=>absurd h (by decide)) (fun _=>hown') (fun h=>absurd h (by decide))
       ·have hlow:=HQ.out.low (HQ.out.not (by omega) hi)
        have hq:=HPV.out.below hlow
        have c0:=hq.cell 0 rfl
        have c1:=hq.cell 1 rfl
        clear hq
        have f15:=h5 15 (by kernel_rfl)
        clear h4 h5
        unfold aO
        go_simp
        exact HQ.out.put ⟨by decide,by decide,by decide⟩ 4 (by decide) hi (af _) (fun _=>rfl) (fun h=>absurd h (by decide)) (fun h=>absurd h (by decide)) (fun h=>absurd h (by decide))
       ·have f88:ρ (.tmp 88)=(.agg #[.int .i64 at',.int .i64 x']):=(h4 4 88 (by kernel_rfl) (by kernel_rfl)).trans (HQ.out.kn 4 (by decide) (hd 4 (by kernel_rfl)))
        clear h4 h5
        unfold aO
        go_simp
        exact HQ.out.put ⟨by decide,by decide,by decide⟩ 5 (by decide) hi (ah (af _) _) (fun h=>absurd h (by decide)) (fun h=>absurd h (by decide)) (fun h=>absurd h (by decide)) (fun _=>⟨_,rfl,fun j u hu=>(aA.new _ _ _).cell j (by simpa using hu)⟩)
       ·have hlow:=HQ.out.low (HQ.out.not (by omega) hi)
        obtain⟨g8,Gu,c8⟩:=HQ.out.e8 (hd 5 (by kernel_rfl)) hi
        have e5:=HQ.out.e5 (hd 3 (by kernel_rfl)) hi
        have f5:ρ (.tmp 87)=vz 3:=h4 3 87 (by kernel_rfl) (by kernel_rfl)
        have f8:=(h4 5 89 (by kernel_rfl) (by kernel_rfl)).trans Gu
        obtain⟨v',w'',hrun,hown',hg,-,-⟩:=run_append_own_at w' W7.heap.size 56 56 61 i2 _ 2 16 Tryd.underlying56 hi2 hx0 hx1 hx2 rfl (by decide) (vz 3) _ _ e5 ⟨g8,0,none⟩ 1 1 [.int .i64 at',.int .i64 x'] rfl (fun j u hu=>by rw[add0];exact c8 j u hu) (by intro u hu;simp at hu;rcases hu with rfl | rfl <;> rfl) (by have:=mV.out;unfold maxLen;omega) (by have:=mV.out;omega) hlow.size
        refine bW rfl f5 f8 hrun ?_
        exact HQ.out.DU ⟨by decide,by decide,by decide⟩ hi (hd 3 (by kernel_rfl)) hg hown'
       ·have f9:=h5 9 (by kernel_rfl)
        clear h4 h5
        unfold aO
        go_simp
        exact HQ.out.put ⟨by decide,by decide,by decide⟩ 7 (by decide) hi (af _) (fun _=>rfl) (fun h=>absurd h (by decide)) (fun h=>absurd h (by decide)) (fun h=>absurd h (by decide))
       ·have hlow:=HQ.out.low hi
        have hq:=Df.out.below hlow
        have c:=hq.cell 8 (v:=.slice ua f.a.writes.length zN) rfl
        have z:=hq.free 8
        clear hq
        have f10:ρ (.tmp 91)=(.pointer (some ⟨A,8,none⟩)):=(h4 7 91 (by kernel_rfl) (by kernel_rfl)).trans (HQ.out.kn 7 (by decide) (hd 7 (by kernel_rfl)))
        obtain⟨g9,c9,ug⟩:=fA (HQ.out.e9 (hd 6 (by kernel_rfl)) hi)
        have f9:=(h4 6 90 (by kernel_rfl) (by kernel_rfl)).trans ug
        have Ii:=hid ug
        clear ug
        have hall:∀ i,i < 8→l1 i=true:=fun i hi=>by
         rcases i with _ | _ | _ | _ | _ | _ | _ | _ | i
         ·exact hd 0 (by kernel_rfl)
         ·exact hd 1 (by kernel_rfl)
         ·exact hd 2 (by kernel_rfl)
         ·exact hd 3 (by kernel_rfl)
         ·exact hd 4 (by kernel_rfl)
         ·exact hd 5 (by kernel_rfl)
         ·exact hd 6 (by kernel_rfl)
         ·exact hd 7 (by kernel_rfl)
         ·omega
        have uB:=hid hall
        clear hall h4 h5
        unfold aO
        go_simp
        have h:=HQ.out.DN ⟨by decide,by decide,by decide⟩ Df.out hi uB.out
        rw[Ii.out]at h
        exact h
      case hdone=>
       rintro vals W9 ⟨v9,yV,NL,NH⟩
       have uD:Hid (aA W9 A (xB { f.a with writes:=f.a.writes++[(at',x')] } (.slice ra f.a.reads.length zO) v9) 58):=hid (by simpa[xB]using NL)
       have oV:Hid (bU W9 (A+1) 61 2 v9 (f.a.writes++[(at',x')]).length (dw (f.a.writes++[(at',x')]))):=hid (by have:=NH.wider (base':=A+1) HW7.out;rw[rD,List.length_append];exact this)
       have Y9:=hid (Lt.out.turn yV (by simp))
       have Zb:=hid (QH.out.trans yV)
       have Bq:=hid (Ji.out.trans (yV.below (B:=Wk.heap.size) (by have:=Jj.out;simp;omega) (by have:=Ji.out.size;omega)))
       clear yV NL NH Df Lt QG QH Ji
       go_wp2_with fail
       go_roundw
       case rel=>exact⟨j+1,_,v9,HJ.out,by go_num,by rw[ig.out],by rw[ig.out],hid (by rw[ig.out];exact uD.out),hid (by rw[ig.out];exact Y9.out),hid (by rw[ig.out];exact oV.out),Zb,Bq⟩
       case measure=>simp[intOf];have:=HJ.out;omega
     by_cases k7:kd=7
     ·subst k7
      have ig:Hid (dK l (iq l k) (m.take (j+1))={ f with a:={ f.a with com:=true,wv:=v' } }):=hid (by rw[QV.out];unfold o7;simp)
      have a5:=Df.out.cell 5 (v:=.int .i64 f.a.wv) rfl
      have a6:=Df.out.cell 6 (v:=.bool f.a.com) rfl
      have s5:=Df.out.free 5
      have s6:=Df.out.free 6
      have q4:=XQ.out.cell 4 (v:=.int .i64 v') rfl
      have hne:b0≠A:=by
       intro h
       have h1:=XQ.out
       have h2:=Df.out
       unfold aA at h1 h2
       rw[h,h2]at h1
       simp at h1
      go_wp2_with fail
      go_roundw
      case rel=>
       have T9:Turn [A] W7 ((W7.setCell ⟨A,6,none⟩ (.bool true)).setCell ⟨A,5,none⟩ (.int .i64 v')):=((Turn.refl _ _).setCell (Or.inl (by simp)) _).setCell (Or.inl (by simp)) _
       exact⟨j+1,_,_,HJ.out,by go_num,by rw[ig.out],by rw[ig.out],hid (by rw[ig.out];exact(by simpa[xB]using(Df.out.set 6 (.bool true)).set 5 (.int .i64 v'))),hid (by rw[ig.out];exact(Lt.out.turn T9 (by simp))),hid (by rw[ig.out];exact(QG.out.turn T9 (by simp))),hid (QH.out.trans T9),hid (Ji.out.trans (T9.below (B:=Wk.heap.size) (by have:=Jj.out;simp;omega) (by have:=Ji.out.size;omega)))⟩
      case measure=>simp[intOf];have:=HJ.out;omega
     by_cases k4:kd=4
     ·subst k4
      have ig:Hid (dK l (iq l k) (m.take (j+1))={ f with lk:=f.lk+1 }):=hid (by rw[QV.out];unfold o7;simp)
      have wf:IntKind.i64.wrap (f.lk+1)=f.lk+1:=IntWalk.i64_in _ (by have:=OC.out.lk;have:=WQ.out;omega)
      go_wp2_with fail
      go_roundw
      case rel=>exact⟨j+1,_,_,HJ.out,by go_num,by rw[ig.out],by rw[ig.out],hid (by rw[ig.out];exact Df.out),hid (by rw[ig.out];exact Lt.out),hid (by rw[ig.out];exact QG.out),QH,Ji⟩
      case measure=>simp[intOf];have:=HJ.out;omega
     by_cases k9:kd=9
     ·subst k9
      have ig:Hid (dK l (iq l k) (m.take (j+1))={ f with gn:=f.gn+1 }):=hid (by rw[QV.out];unfold o7;simp)
      have wf:IntKind.i64.wrap (f.gn+1)=f.gn+1:=IntWalk.i64_in _ (by have:=OC.out.gn;have:=WQ.out;omega)
      go_wp2_with fail
      go_roundw
      case rel=>exact⟨j+1,_,_,HJ.out,by go_num,by rw[ig.out],by rw[ig.out],hid (by rw[ig.out];exact Df.out),hid (by rw[ig.out];exact Lt.out),hid (by rw[ig.out];exact QG.out),QH,Ji⟩
      case measure=>simp[intOf];have:=HJ.out;omega
     by_cases k11:kd=11
     ·subst k11
      have ig:Hid (dK l (iq l k) (m.take (j+1))={ f with gn:=f.gn+1 }):=hid (by rw[QV.out];unfold o7;simp)
      have wf:IntKind.i64.wrap (f.gn+1)=f.gn+1:=IntWalk.i64_in _ (by have:=OC.out.gn;have:=WQ.out;omega)
      go_wp2_with fail
      go_roundw
      case rel=>exact⟨j+1,_,_,HJ.out,by go_num,by rw[ig.out],by rw[ig.out],hid (by rw[ig.out];exact Df.out),hid (by rw[ig.out];exact Lt.out),hid (by rw[ig.out];exact QG.out),QH,Ji⟩
      case measure=>simp[intOf];have:=HJ.out;omega
     have n3:(kd==3)=false:=by simpa using k3
     have n8:(kd==8)=false:=by simpa using k8
     have n7:(kd==7)=false:=by simpa using k7
     have n4:(kd==4)=false:=by simpa using k4
     have n9:(kd==9)=false:=by simpa using k9
     have n11:(kd==11)=false:=by simpa using k11
     have ig:Hid (dK l (iq l k) (m.take (j+1))=f):=hid (by rw[QV.out];unfold o7;simp[k3,k8,k7,k4,k9,k11])
     clear k3 k8 k7 k4 k9 k11
     go_wp2_with fail
     go_roundw
     case rel=>exact⟨j+1,_,_,HJ.out,by go_num,by rw[ig.out],by rw[ig.out],hid (by rw[ig.out];exact Df.out),hid (by rw[ig.out];exact Lt.out),hid (by rw[ig.out];exact QG.out),QH,Ji⟩
     case measure=>simp[intOf];have:=HJ.out;omega
   ·obtain rfl:j=m.length:=by omega
    rw[List.take_length]at QS HRR Uj
    have OC:=hid (FB.TS l k m)
    have HTO:Hid ((dK l (iq l k) m).a.dI=-1):=hid ((Ei l m (iq l k)).trans (by rw[Vd.out]))
    obtain⟨rn,hrn⟩:∃ n,n=(dK l (iq l k) m).a.reads.length:=⟨_,rfl⟩
    obtain⟨un,hun⟩:∃ n,n=(dK l (iq l k) m).a.writes.length:=⟨_,rfl⟩
    have XE:=hid hrn
    have HUN:=hid hun
    rw[←hrn]at QS HRR
    rw[←hun]at QS Uj
    clear hrn hun
    rw[List.take_length]
    obtain⟨M,hM⟩:∃ M,m.length=M+1:=⟨m.length-1,by have:=WH.out;omega⟩
    have r0:wr.cell? ⟨g,M,none⟩=some (.int .i64 (jR l k:Int)):=Ws.out.cell (by simpa using LD.out) (by
     have h1:=O1.out M (by omega)
     have h2:=Lc.out
     rw[show m.length-1=M by omega,List.getElem?_eq_getElem (by omega)]at h2
     rw[h1,Option.some.inj h2])
    obtain⟨d0,-⟩:=HC.out wr (ag HB1.out (ag fB.out UN.out)) (jR l k) WL.out
    have HEX:=hid (sS WL.out)
    generalize l[jR l k]'WL.out=X at d0 HEX
    obtain⟨kd,Vj,LQ,at',v',x',why'⟩:=X
    dsimp only at d0
    rw[HEX.out]at HR0
    generalize jR l k=x at*
    generalize dK l (iq l k) m=f at*
    have i1:IntKind.i64.wrap ((m.length:Int)-1)=(M:Int):=by rw[IntWalk.i64_in _ (by have:=Oz.out;have:=HL.out;omega)];omega
    have i2:(0:Int)≤(M:Int):=by omega
    have i3:(M:Int) < (m.length:Int):=by omega
    have i4:decide (M < m.length)=true:=decide_eq_true (by omega)
    have i5:(M:Int).toNat=M:=by omega
    have v0:(0:Int)≤(x:Int):=by omega
    have v1:(x:Int) < (l.length:Int):=by have:=WL.out;omega
    have v2:decide (x < l.length)=true:=decide_eq_true WL.out
    have hk1:decide ((m.length:Int) < (m.length:Int))=false:=decide_eq_false (by omega)
    have HI:=hid (And.intro i1 (And.intro i2 (And.intro i3 (And.intro i4 i5))))
    clear hjl hj hM
    go_wp2_with fail
    go_quiet (fail)
    obtain⟨W3,hW3⟩:∃ W3,W3=wr.drewN nq:=⟨_,rfl⟩
    have hbe:Below wr.heap.size wr W3:=by rw[hW3];exact ai (af _) _
    have Du:=hid (QS.out.below hbe)
    have HR3:=hid (HRR.out.old hbe)
    have XC:=hid (Uj.out.old hbe)
    have HB3:=hid (ag UN.out hbe)
    have R0:=hid (later hbe r0)
    have HW3:Hid (A+1≤W3.heap.size):=hid (by have:=QS.out.lt;have:=hbe.size;omega)
    rw[←hW3]
    clear hW3 hbe r0 d0 y3 v0 v1 v2 hk1 i1 i2 i3 i4 i5 QS HRR Uj Ws UN
    go_upto_region 32 with(fail)
    go_cut [144] (fun s w'=>s=.bool (ku kd f.lk f.gn)∧W3=w')
    case first=>
     by_cases k7:kd=7∨kd=10
     ·by_cases e1:f.lk=0
      ·have b1:(f.lk==0)=true:=by simpa using e1
       have HF:Hid (ku kd f.lk f.gn=true):=hid (by unfold ku;simp[k7,e1])
       rcases k7 with rfl | rfl <;> (clear e1;go_wp2_with fail;go_meet;exact⟨by rw[HF.out],rfl⟩)
      ·have b1:(f.lk==0)=false:=by simpa using e1
       have HF:Hid (ku kd f.lk f.gn=false):=hid (by unfold ku;rw[Bool.or_eq_false_iff,Bool.or_eq_false_iff,decide_eq_false_iff_not,decide_eq_false_iff_not,decide_eq_false_iff_not];omega)
       rcases k7 with rfl | rfl <;> (clear e1;go_wp2_with fail;go_meet;exact⟨by rw[HF.out],rfl⟩)
     by_cases k9:kd=9∨kd=11
     ·by_cases e1:f.gn=f.lk
      ·have b1:(f.gn==f.lk)=true:=by simpa using e1
       have HF:Hid (ku kd f.lk f.gn=true):=hid (by unfold ku;simp[k9,e1])
       rcases k9 with rfl | rfl <;> (clear e1 k7;go_wp2_with fail;go_meet;exact⟨by rw[HF.out],rfl⟩)
      ·have b1:(f.gn==f.lk)=false:=by simpa using e1
       have HF:Hid (ku kd f.lk f.gn=false):=hid (by unfold ku;rw[Bool.or_eq_false_iff,Bool.or_eq_false_iff,decide_eq_false_iff_not,decide_eq_false_iff_not,decide_eq_false_iff_not];omega)
       rcases k9 with rfl | rfl <;> (clear e1 k7;go_wp2_with fail;go_meet;exact⟨by rw[HF.out],rfl⟩)
     have n7:(kd==7)=false:=by rw[beq_eq_false_iff_ne];omega
     have n10:(kd==10)=false:=by rw[beq_eq_false_iff_ne];omega
     have n9:(kd==9)=false:=by rw[beq_eq_false_iff_ne];omega
     have n11:(kd==11)=false:=by rw[beq_eq_false_iff_ne];omega
     by_cases k12:kd=12
     ·have n12:(kd==12)=true:=by simpa using k12
      have HF:Hid (ku kd f.lk f.gn=true):=hid (by unfold ku;simp[k12])
      clear k7 k9 k12
      go_wp2_with fail
      go_meet
      exact⟨by rw[HF.out],rfl⟩
     ·have n12:(kd==12)=false:=by simpa using k12
      have HF:Hid (ku kd f.lk f.gn=false):=hid (by unfold ku;rw[Bool.or_eq_false_iff,Bool.or_eq_false_iff,decide_eq_false_iff_not,decide_eq_false_iff_not,decide_eq_false_iff_not];omega)
      clear k7 k9 k12
      go_wp2_with fail
      go_meet
      exact⟨by rw[HF.out],rfl⟩
    obtain⟨rfl,rfl⟩:=hcut
    obtain⟨i1,i2,i3,i4,i5⟩:=HI.out
    have r0:=R0.out
    have c3:=Du.out.cell 3 (v:=.int .i64 f.a.dI) rfl
    have s3:=Du.out.free 3
    cases hend:ku kd f.lk f.gn
    ·have OE:Hid (iM l k={ f.a with dI:=-1 }):=hid (by rw[HR0.out];simp[hend])
     clear hend
     go_upto_region 34 with(fail)
     obtain⟨W4,pF⟩:∃ W4,W4=W3:=⟨_,rfl⟩
     have T4:Turn [A] W3 W4:=by rw[pF];exact Turn.refl _ _
     have dX:Hid (aA W4 A (xB (iM l k) (.slice ra rn zO) (.slice ua un zN)) 58):=hid (by rw[OE.out,Ud (show f.a.dI=-1 from HTO.out),pF];exact Du.out)
     have HR4:Hid (bU W4 w1.heap.size 61 2 (.slice ra rn zO) (iM l k).reads.length (dw (iM l k).reads)):=hid (by
      have h:=(HR3.out.turn T4 (by simp)).wider (base':=w1.heap.size) (by have:=fB.out.size;have:=Jj.out;omega)
      rw[OE.out];dsimp only;rw[←XE.out];exact h)
     have Za:Hid (bU W4 w1.heap.size 61 2 (.slice ua un zN) (iM l k).writes.length (dw (iM l k).writes)):=hid (by
      have h:=(XC.out.turn T4 (by simp)).wider (base':=w1.heap.size) (by have:=fB.out.size;have:=Jj.out;omega)
      rw[OE.out];dsimp only;rw[←HUN.out];exact h)
     have hbk:Below Wk.heap.size Wk W4:=HB3.out.trans (T4.below (B:=Wk.heap.size) (by have:=Jj.out;simp;omega) (by have:=HB3.out.size;omega))
     have OJ:=hid (HAT.out.old hbk)
     have HB4:=hid (ag fB.out hbk)
     subst pF
     try clear pF
     clear T4 hbk c3 s3 r0 i1 i2 i3 i4 i5 Du HR3 XC HB3 R0 OE HR0
     generalize iM l k=b at*
     unfold xB at dX
     have a0:=dX.out.cell 0 (v:=.int .i64 b.th) rfl
     have a1:=dX.out.cell 1 (v:=.int .i64 b.tx) rfl
     have a2:=dX.out.cell 2 (v:=.int .i64 b.from_) rfl
     have a3:=dX.out.cell 3 (v:=.int .i64 b.dI) rfl
     have a4:=dX.out.cell 4 (v:=.int .i64 b.rv) rfl
     have a5:=dX.out.cell 5 (v:=.int .i64 b.wv) rfl
     have a6:=dX.out.cell 6 (v:=.bool b.com) rfl
     have a7:=dX.out.cell 7 (v:=.slice ra rn zO) rfl
     have a8:=dX.out.cell 8 (v:=.slice ua un zN) rfl
     have hbx:=ah (af W4) (.cells #[.int .i64 b.th,.int .i64 b.tx,.int .i64 b.from_,.int .i64 b.dI,.int .i64 b.rv,.int .i64 b.wv,.bool b.com,.slice ra rn zO,.slice ua un zN] 58)
     have hown1:=fC OJ.out.1.1 hbx
     have hb4:=ag HB4.out hbx
     have WC:=hid (BV l k)
     have hk4:=WO.out
     go_wp2_with (first
      | (at_builtin;refine wpList_append_own_at _ rfl (.tmp 152) (.tmp 154) 29 rfl w1.heap.size 58 i9 _ 9 104 Tryd.underlying29 hi9 hy0 hy1 hy2 rfl (by decide) (.slice py (JH l k).length cy) _ _ rfl hown1 ⟨W4.heap.size,0,none⟩ 1 1 (kP b (.slice ra rn zO) (.slice ua un zN)) rfl rfl (by intro j u hu;rw[add0];exact(aA.new W4 #[.int .i64 b.th,.int .i64 b.tx,.int .i64 b.from_,.int .i64 b.dI,.int .i64 b.rv,.int .i64 b.wv,.bool b.com,.slice ra rn zO,.slice ua un zN] 58).cell j (by simpa[kP]using hu)) (EK b ra ua rn zO un zN) (by have:=WC.out;have:=bf.out;have:=HL.out;unfold maxLen;omega) (by have:=WC.out;have:=bf.out;have:=HL.out;omega) hb4.size ?_;intro v9 w9 hown' hg hn hd;obtain⟨g9,cp9,rfl⟩:=fA hown'))
     go_roundw
     case rel=>
      have YD:Below w1.heap.size w1 w9:=hb4.grown hg hb4.size (fun k hk=>(hown1.lt k hk).1)
      exact⟨k+1,_,bf.out,by go_num,hid (by rw[HZ.out];exact(OJ.out.old hbx).push hown' hg (HR4.out.old hbx) (Za.out.old hbx)),hid YD⟩
     case measure=>simp[intOf];have:=bf.out;omega
    ·have OE:Hid (iM l k={ f.a with dI:=(x:Int) }):=hid (by rw[HR0.out];simp[hend])
     clear hend
     go_upto_region 34 with(fail)
     obtain⟨W4,pF⟩:∃ W4,W4=W3.setCell ⟨A,3,none⟩ (.int .i64 (x:Int)):=⟨_,rfl⟩
     have T4:Turn [A] W3 W4:=by rw[pF];exact(Turn.refl _ _).setCell (Or.inl (by simp)) _
     have dX:Hid (aA W4 A (xB (iM l k) (.slice ra rn zO) (.slice ua un zN)) 58):=hid (by rw[OE.out,pF];simpa[xB]using Du.out.set 3 (.int .i64 (x:Int)))
     have HR4:Hid (bU W4 w1.heap.size 61 2 (.slice ra rn zO) (iM l k).reads.length (dw (iM l k).reads)):=hid (by
      have h:=(HR3.out.turn T4 (by simp)).wider (base':=w1.heap.size) (by have:=fB.out.size;have:=Jj.out;omega)
      rw[OE.out];dsimp only;rw[←XE.out];exact h)
     have Za:Hid (bU W4 w1.heap.size 61 2 (.slice ua un zN) (iM l k).writes.length (dw (iM l k).writes)):=hid (by
      have h:=(XC.out.turn T4 (by simp)).wider (base':=w1.heap.size) (by have:=fB.out.size;have:=Jj.out;omega)
      rw[OE.out];dsimp only;rw[←HUN.out];exact h)
     have hbk:Below Wk.heap.size Wk W4:=HB3.out.trans (T4.below (B:=Wk.heap.size) (by have:=Jj.out;simp;omega) (by have:=HB3.out.size;omega))
     have OJ:=hid (HAT.out.old hbk)
     have HB4:=hid (ag fB.out hbk)
     rw[←pF]
     try clear pF
     clear T4 hbk c3 s3 r0 i1 i2 i3 i4 i5 Du HR3 XC HB3 R0 OE HR0
     generalize iM l k=b at*
     unfold xB at dX
     have a0:=dX.out.cell 0 (v:=.int .i64 b.th) rfl
     have a1:=dX.out.cell 1 (v:=.int .i64 b.tx) rfl
     have a2:=dX.out.cell 2 (v:=.int .i64 b.from_) rfl
     have a3:=dX.out.cell 3 (v:=.int .i64 b.dI) rfl
     have a4:=dX.out.cell 4 (v:=.int .i64 b.rv) rfl
     have a5:=dX.out.cell 5 (v:=.int .i64 b.wv) rfl
     have a6:=dX.out.cell 6 (v:=.bool b.com) rfl
     have a7:=dX.out.cell 7 (v:=.slice ra rn zO) rfl
     have a8:=dX.out.cell 8 (v:=.slice ua un zN) rfl
     have hbx:=ah (af W4) (.cells #[.int .i64 b.th,.int .i64 b.tx,.int .i64 b.from_,.int .i64 b.dI,.int .i64 b.rv,.int .i64 b.wv,.bool b.com,.slice ra rn zO,.slice ua un zN] 58)
     have hown1:=fC OJ.out.1.1 hbx
     have hb4:=ag HB4.out hbx
     have WC:=hid (BV l k)
     have hk4:=WO.out
     go_wp2_with (first
      | (at_builtin;refine wpList_append_own_at _ rfl (.tmp 152) (.tmp 154) 29 rfl w1.heap.size 58 i9 _ 9 104 Tryd.underlying29 hi9 hy0 hy1 hy2 rfl (by decide) (.slice py (JH l k).length cy) _ _ rfl hown1 ⟨W4.heap.size,0,none⟩ 1 1 (kP b (.slice ra rn zO) (.slice ua un zN)) rfl rfl (by intro j u hu;rw[add0];exact(aA.new W4 #[.int .i64 b.th,.int .i64 b.tx,.int .i64 b.from_,.int .i64 b.dI,.int .i64 b.rv,.int .i64 b.wv,.bool b.com,.slice ra rn zO,.slice ua un zN] 58).cell j (by simpa[kP]using hu)) (EK b ra ua rn zO un zN) (by have:=WC.out;have:=bf.out;have:=HL.out;unfold maxLen;omega) (by have:=WC.out;have:=bf.out;have:=HL.out;omega) hb4.size ?_;intro v9 w9 hown' hg hn hd;obtain⟨g9,cp9,rfl⟩:=fA hown'))
     go_roundw
     case rel=>
      have YD:Below w1.heap.size w1 w9:=hb4.grown hg hb4.size (fun k hk=>(hown1.lt k hk).1)
      exact⟨k+1,_,bf.out,by go_num,hid (by rw[HZ.out];exact(OJ.out.old hbx).push hown' hg (HR4.out.old hbx) (Za.out.old hbx)),hid YD⟩
     case measure=>simp[intOf];have:=bf.out;omega
end Go.Proofs.YtcddlnmcjmhbcaaDoor
-- short
