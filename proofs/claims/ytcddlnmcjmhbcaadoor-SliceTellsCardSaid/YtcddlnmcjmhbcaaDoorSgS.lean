/-
  Joined texts: RowOpen SlOpen SrW3 SrW4 SrW5.
-/
import Derived.ProofKit
import Derived.OpenShut
import Derived.SizedLaws
import Derived.Test.YtcddlnmcjmhbcaaDoorSgE
import Derived.Test.YtcddlnmcjmhbcaaDoorSgR
import Derived.Test.YtcddlnmcjmhbcaaDoorRgD
import Derived.Test.YtcddlnmcjmhbcaaDoorRgC
import Derived.Test.YtcddlnmcjmhbcaaDoorSgF
import Derived.Test.YtcddlnmcjmhbcaaDoorHtG
import Derived.Test.YtcddlnmcjmhbcaaDoorHtB
namespace Go.Proofs.YtcddlnmcjmhbcaaDoor
set_option linter.unusedVariables false
set_option linter.unusedSimpArgs false
open Go Go.RowKit Go.ChangeShapes Go.WideShapes Go.ChangeAt
section
variable {H:Type} {enc:TypeId×Value→H} {w:World} {sp:Nat→Bool} {held:Bool} {P:Program}
theorem weightsAll_mem {e:TypeId}:∀ {ds:List (DataW H)} {d:DataW H},d∈ds→∀ n∈d.weights P e,n∈DataW.weightsAll P e ds
 | x :: ds,d,hd,n,hn=>by
  simp only[DataW.weightsAll,List.mem_append]
  rcases List.mem_cons.1 hd with rfl | hd
  ·exact .inl hn
  ·exact .inr (weightsAll_mem hd n hn)
theorem I9 {a:Addr} {n:Nat} {cs:List Value} (h:w.cells? 0 a n=some cs) (hn:0 < n):cs.length=n∧a=⟨a.block,a.off,none⟩∧∀ i (hc:i < cs.length),w.cell? ⟨a.block,a.off+i,none⟩=some cs[i]:=by
 obtain⟨_,h1,h2⟩:=World.cells?_some h
 have hs:a=⟨a.block,a.off,none⟩:=by
  have h3:=World.cell?_spot (by have:=h2 0 hn;rw[List.getElem?_eq_getElem (by omega)]at this;exact this)
  obtain⟨b,o,s⟩:=a
  simp[Addr.add]at h3⊢;exact h3
 refine⟨h1,hs,fun i hc=>?_⟩
 have h3:=h2 i (by omega)
 rw[List.getElem?_eq_getElem hc]at h3
 have:a.add i=⟨a.block,a.off+i,none⟩:=by
  rw[hs]
  unfold Addr.add
  split
  ·rename_i h0;simp[h0]
  ·rfl
 rw[←this];exact h3
theorem qg {t e:TypeId} {m fuel:Nat} {v:Value} {x:DataW H×List MemPlace} (ht:P.underlying t=some (.slice e)) (hm:P.cellsOf e=m) (hm0:0 < m) (h:DataW.trod enc P w 0 sp held fuel t [v]=some x):
  ∃ a len cap n',n' < fuel∧v=.slice a len cap∧len≤9223372036854775807∧((∀ n∈x.1.weights P t,n≤reachBytes)→len*P.bytesOf e≤reachBytes)∧(a=none→cap=0)∧
   (0 < len→∃ b o,a=some ⟨b,o,none⟩∧∀ i,i < len→∃ cs y,cs.length=m∧(∀ j (hj:j < cs.length),w.cell? ⟨b,o+i*m+j,none⟩=some cs[j])∧DataW.trod enc P w 0 sp held n' e cs=some y∧∀ n∈y.1.weights P e,n∈x.1.weights P t):=by
 rcases DataW.trod_slice ht h with⟨hc,-⟩ | ⟨ad,len,cap,elems,rest,n,rfl,hc,rfl,hb,hl,hx,hlen,hel,hsp,hns⟩
 ·simp only[List.cons.injEq,and_true]at hc
  cases fuel with
  | zero=>simp[DataW.trod]at h
  | succ n=>exact⟨none,0,0,n,by omega,by rw[hc],by omega,fun _=>by omega,fun _=>rfl,fun h=>absurd h (Nat.lt_irrefl _)⟩
 ·simp only[List.cons.injEq,and_true]at hc
  rw[hm]at hel
  have hch:∀ i,i < len→∃ cs y,w.cells? 0 (ad.add (i*m)) m=some cs∧DataW.trod enc P w 0 sp held n e cs=some y∧elems[i]? =some y:=by
   intro i hi
   have h1:=hel i hi
   rw[List.getElem?_eq_getElem (by omega)]at h1
   obtain⟨cs',h2,h3⟩:=Option.bind_eq_some_iff.1 h1
   exact⟨cs',_,h2,h3,List.getElem?_eq_getElem (by omega)⟩
  refine⟨some ad,len,cap,n,by omega,hc,by unfold maxLen at hx;omega,fun hw=>?_,(fun h=>by cases h),fun hpos=>?_⟩
  ·have:=hw ((elems.length+rest.length)*P.bytesOf e) (by simp[DataW.weights,ht])
   have h2:len*P.bytesOf e≤(elems.length+rest.length)*P.bytesOf e:=Nat.mul_le_mul_right _ (by omega)
   exact Nat.le_trans h2 this
  ·have had:ad=⟨ad.block,ad.off,none⟩:=by
    obtain⟨cs,y,h1,-⟩:=hch 0 hpos
    obtain⟨-,hs,-⟩:=I9 h1 hm0
    have e:ad.add (0*m)=ad:=by simp[Addr.add]
    rw[e]at hs
    exact hs
   refine⟨ad.block,ad.off,congrArg some had,fun i hi=>?_⟩
   obtain⟨cs,y,h1,h2,h3⟩:=hch i hi
   obtain⟨hl',hs,hall⟩:=I9 h1 hm0
   have VW:(ad.add (i*m)).block=ad.block∧(ad.add (i*m)).off=ad.off+i*m:=by
    unfold Addr.add;split
    ·rename_i h;simp[h]
    ·exact⟨rfl,rfl⟩
   refine⟨cs,y,hl',fun j hj=>?_,h2,fun q hq=>?_⟩
   ·have:=hall j hj
    rw[VW.1,VW.2]at this
    exact this
   ·have hmem:y.1∈elems.map (·.1):=List.mem_map.2 ⟨y,List.mem_of_getElem? h3,rfl⟩
    have:=weightsAll_mem (P:=P) (e:=e) hmem q hq
    simp[DataW.weights,ht,this]
end
theorem Bf:Tryd.prog.cellsOf 61=2:=by kernel_rfl
theorem Ez:Tryd.prog.cellsOf 58=9:=by kernel_rfl
theorem wK:Tryd.prog.cellsOf 3=1:=by kernel_rfl
theorem KH:Tryd.prog.cellsOf 2=1:=by kernel_rfl
theorem Ht:Tryd.prog.cellsOf 4=1:=by kernel_rfl
theorem Ho:Tryd.prog.cellsOf 56=1:=by kernel_rfl
theorem KJ:Tryd.prog.bytesOf 61=16:=by kernel_rfl
theorem qB {n:Int} (h:(Lit.int .i64 n).wf=true):tu n:=by unfold tu;simpa[Lit.wf,IntKind.min,IntKind.max,IntKind.signed,IntKind.bits]using h
section
variable {H:Type} {enc:TypeId×Value→H} {w:World} {sp:Nat→Bool} {held:Bool}
set_option maxRecDepth 100000 in
theorem BM {fuel:Nat} {cs:List Value} {x:DataW H×List MemPlace} (h:DataW.trod enc Tryd.prog w 0 sp held fuel 61 cs=some x):∃ p:Int×Int,cs=[.int .i64 p.1,.int .i64 p.2]∧tu p.1∧tu p.2:=by
 obtain⟨xs,n,rfl,-,hlen,hxs,hel⟩:=DataW.trod_struct Tryd.underlying61 h
 rw[Bf]at hlen
 match cs,hlen with
 | [c0,c1],_=>
 match xs,hxs with
 | [x0,x1],_=>
 have h0:DataW.trod enc Tryd.prog w 0 sp held n 3 (([c0,c1].drop 0).take (Tryd.prog.cellsOf 3))=some x0:=hel 0 _ rfl
 have h1:DataW.trod enc Tryd.prog w 0 sp held n 2 (([c0,c1].drop 1).take (Tryd.prog.cellsOf 2))=some x1:=hel 1 _ rfl
 rw[wK]at h0
 rw[KH]at h1
 simp only[List.drop_zero,List.drop_succ_cons,List.take_succ_cons,List.take_zero]at h0 h1
 obtain⟨a,e0,-,w0⟩:=DataW.trod_int Tryd.underlying3 h0
 obtain⟨b,e1,-,w1⟩:=DataW.trod_int Tryd.underlying2 h1
 simp only[List.cons.injEq,and_true]at e0 e1
 subst e0;subst e1
 exact⟨(a,b),rfl,qB w0,qB w1⟩
theorem tH {fuel:Nat} {v:Value} {x:DataW H×List MemPlace} (h:DataW.trod enc Tryd.prog w 0 sp held fuel 56 [v]=some x):
  ∃ l,fJ w l v∧((∀ n∈x.1.weights Tryd.prog 56,n≤reachBytes)→l.length*16≤reachBytes):=by
 obtain⟨a,len,cap,n',_,rfl,hlen,hw,-,hx⟩:=qg Tryd.underlying56 Bf (by decide) h
 rw[KJ]at hw
 have hch:∀ i:Fin len,∃ p:Int×Int,(tu p.1∧tu p.2)∧∀ b o,a=some ⟨b,o,none⟩→w.cell? ⟨b,o+i.1*2,none⟩=some (.int .i64 p.1)∧w.cell? ⟨b,o+i.1*2+1,none⟩=some (.int .i64 p.2):=by
  intro i
  obtain⟨b,o,ha,hi⟩:=hx (by have:=i.2;omega)
  obtain⟨cs,y,h1,h2,h3,-⟩:=hi i.1 i.2
  obtain⟨p,rfl,hp⟩:=BM h3
  refine⟨p,hp,fun b' o' ha'=>?_⟩
  rw[ha]at ha'
  cases ha'
  exact⟨by simpa using h2 0 (by simp),by simpa using h2 1 (by simp)⟩
 refine⟨List.ofFn fun i=>Classical.choose (hch i),⟨a,cap,by simp,by simpa using hlen,?_,fun hne=>?_⟩,by simpa using hw⟩
 ·intro p hp
  obtain⟨i,rfl⟩:=List.mem_ofFn.1 hp
  exact(Classical.choose_spec (hch i)).1
 ·have hpos:0 < len:=by
   rcases Nat.eq_zero_or_pos len with h | h
   ·subst h;simp at hne
   ·exact h
  obtain⟨b,o,ha,-⟩:=hx hpos
  refine⟨b,o,ha,fun k hk=>?_⟩
  simp only[List.length_ofFn]at hk
  have:=(Classical.choose_spec (hch ⟨k,hk⟩)).2 b o ha
  simpa using this
set_option maxRecDepth 100000 in
theorem EI {fuel:Nat} {cs:List Value} {x:DataW H×List MemPlace} (h:DataW.trod enc Tryd.prog w 0 sp held fuel 58 cs=some x):
  ∃ (a:aH) (r u:Value),cs=[.int .i64 a.th,.int .i64 a.tx,.int .i64 a.from_,.int .i64 a.dI,.int .i64 a.rv,.int .i64 a.wv,.bool a.com,r,u]∧UX a∧fJ w a.reads r∧fJ w a.writes u∧((∀ n∈x.1.weights Tryd.prog 58,n≤reachBytes)→a.reads.length*16≤reachBytes∧a.writes.length*16≤reachBytes):=by
 obtain⟨xs,n,rfl,rfl,hlen,hxs,hel⟩:=DataW.trod_struct Tryd.underlying58 h
 rw[Ez]at hlen
 match cs,hlen with
 | [c0,c1,c2,c3,c4,c5,c6,c7,c8],_=>
 match xs,hxs with
 | [x0,x1,x2,x3,x4,x5,x6,x7,x8],_=>
 have h0:DataW.trod enc Tryd.prog w 0 sp held n 3 (([c0,c1,c2,c3,c4,c5,c6,c7,c8].drop 0).take (Tryd.prog.cellsOf 3))=some x0:=hel 0 _ rfl
 have h1:DataW.trod enc Tryd.prog w 0 sp held n 3 (([c0,c1,c2,c3,c4,c5,c6,c7,c8].drop 1).take (Tryd.prog.cellsOf 3))=some x1:=hel 1 _ rfl
 have h2:DataW.trod enc Tryd.prog w 0 sp held n 3 (([c0,c1,c2,c3,c4,c5,c6,c7,c8].drop 2).take (Tryd.prog.cellsOf 3))=some x2:=hel 2 _ rfl
 have h3:DataW.trod enc Tryd.prog w 0 sp held n 3 (([c0,c1,c2,c3,c4,c5,c6,c7,c8].drop 3).take (Tryd.prog.cellsOf 3))=some x3:=hel 3 _ rfl
 have h4:DataW.trod enc Tryd.prog w 0 sp held n 3 (([c0,c1,c2,c3,c4,c5,c6,c7,c8].drop 4).take (Tryd.prog.cellsOf 3))=some x4:=hel 4 _ rfl
 have h5:DataW.trod enc Tryd.prog w 0 sp held n 3 (([c0,c1,c2,c3,c4,c5,c6,c7,c8].drop 5).take (Tryd.prog.cellsOf 3))=some x5:=hel 5 _ rfl
 have h6:DataW.trod enc Tryd.prog w 0 sp held n 4 (([c0,c1,c2,c3,c4,c5,c6,c7,c8].drop 6).take (Tryd.prog.cellsOf 4))=some x6:=hel 6 _ rfl
 have h7:DataW.trod enc Tryd.prog w 0 sp held n 56 (([c0,c1,c2,c3,c4,c5,c6,c7,c8].drop 7).take (Tryd.prog.cellsOf 56))=some x7:=hel 7 _ rfl
 have h8:DataW.trod enc Tryd.prog w 0 sp held n 56 (([c0,c1,c2,c3,c4,c5,c6,c7,c8].drop 8).take (Tryd.prog.cellsOf 56))=some x8:=hel 8 _ rfl
 rw[wK]at h0 h1 h2 h3 h4 h5
 rw[Ht]at h6
 rw[Ho]at h7 h8
 simp only[List.drop_zero,List.drop_succ_cons,List.take_succ_cons,List.take_zero]at h0 h1 h2 h3 h4 h5 h6 h7 h8
 obtain⟨a0,e0,-,w0⟩:=DataW.trod_int Tryd.underlying3 h0
 obtain⟨a1,e1,-,w1⟩:=DataW.trod_int Tryd.underlying3 h1
 obtain⟨a2,e2,-,w2⟩:=DataW.trod_int Tryd.underlying3 h2
 obtain⟨a3,e3,-,w3⟩:=DataW.trod_int Tryd.underlying3 h3
 obtain⟨a4,e4,-,w4⟩:=DataW.trod_int Tryd.underlying3 h4
 obtain⟨a5,e5,-,w5⟩:=DataW.trod_int Tryd.underlying3 h5
 obtain⟨a6,e6,-⟩:=DataW.trod_bool Tryd.underlying4 h6
 obtain⟨l7,r7,g7⟩:=tH h7
 obtain⟨l8,r8,g8⟩:=tH h8
 simp only[List.cons.injEq,and_true]at e0 e1 e2 e3 e4 e5 e6
 subst e0 e1 e2 e3 e4 e5 e6
 refine⟨⟨a0,a1,a2,a3,a4,a5,a6,l7,l8⟩,c7,c8,rfl,⟨qB w0,qB w1,qB w2,qB w3,qB w4,qB w5⟩,r7,r8,fun hw=>⟨g7 fun n hn=>hw n ?_,g8 fun n hn=>hw n ?_⟩⟩
 ·simp only[DataW.weights,Tryd.underlying58]
  exact DataW.weights_mem_each (j:=7) (t:=56) (d:=x7.1) rfl rfl n hn
 ·simp only[DataW.weights,Tryd.underlying58]
  exact DataW.weights_mem_each (j:=8) (t:=56) (d:=x8.1) rfl rfl n hn
theorem CU {fuel:Nat} {v:Value} {x:DataW H×List MemPlace} (h:DataW.trod enc Tryd.prog w 0 sp held fuel 29 [v]=some x):
  ∃ L,jq w L v∧((∀ n∈x.1.weights Tryd.prog 29,n≤reachBytes)→∀ a∈L,a.reads.length*16≤reachBytes∧a.writes.length*16≤reachBytes):=by
 obtain⟨a,len,cap,n',_,rfl,hlen,hw,-,hx⟩:=qg Tryd.underlying29 Ez (by decide) h
 have hch:∀ i:Fin len,∃ p:aH,(∀ b o,a=some ⟨b,o,none⟩→∃ r u,OM w b (o+i.1*9) p r u)∧((∀ n∈x.1.weights Tryd.prog 29,n≤reachBytes)→p.reads.length*16≤reachBytes∧p.writes.length*16≤reachBytes):=by
  intro i
  obtain⟨b,o,ha,hi⟩:=hx (by have:=i.2;omega)
  obtain⟨cs,y,h1,h2,h3,h4⟩:=hi i.1 i.2
  obtain⟨p,r,u,rfl,hp,hr,hu,hpw⟩:=EI h3
  refine⟨p,fun b' o' ha'=>?_,fun hw'=>hpw fun n hn=>hw' n (h4 n hn)⟩
  rw[ha]at ha'
  cases ha'
  exact⟨r,u,hp,by simpa using h2 0 (by simp),by simpa using h2 1 (by simp),by simpa using h2 2 (by simp),by simpa using h2 3 (by simp),by simpa using h2 4 (by simp),by simpa using h2 5 (by simp),by simpa using h2 6 (by simp),by simpa using h2 7 (by simp),by simpa using h2 8 (by simp),hr,hu⟩
 refine⟨List.ofFn fun i=>Classical.choose (hch i),⟨a,cap,by simp,by simpa using hlen,fun hne=>?_⟩,fun hw' p hp=>?_⟩
 ·have hpos:0 < len:=by
   rcases Nat.eq_zero_or_pos len with h | h
   ·subst h;simp at hne
   ·exact h
  obtain⟨b,o,ha,-⟩:=hx hpos
  refine⟨b,o,ha,fun k hk=>?_⟩
  simp only[List.length_ofFn]at hk
  have:=(Classical.choose_spec (hch ⟨k,hk⟩)).1 b o ha
  simpa using this
 ·obtain⟨i,rfl⟩:=List.mem_ofFn.1 hp
  exact(Classical.choose_spec (hch i)).2 hw'
theorem int_of_trod {fuel:Nat} {cs:List Value} {x:DataW H×List MemPlace} (h:DataW.trod enc Tryd.prog w 0 sp held fuel 3 cs=some x):∃ n:Int,cs=[.int .i64 n]∧tu n:=by
 obtain⟨a,e0,-,w0⟩:=DataW.trod_int Tryd.underlying3 h
 exact⟨a,e0,qB w0⟩
theorem Cm {fuel:Nat} {v:Value} {x:DataW H×List MemPlace} (h:DataW.trod enc Tryd.prog w 0 sp held fuel 32 [v]=some x):∃ l,Ff w l v:=by
 obtain⟨a,len,cap,n',_,rfl,hlen,hw,hnil,hx⟩:=qg Tryd.underlying32 wK (by decide) h
 have hch:∀ i:Fin len,∃ p:Int,tu p∧∀ b o,a=some ⟨b,o,none⟩→w.cell? ⟨b,o+i.1,none⟩=some (.int .i64 p):=by
  intro i
  obtain⟨b,o,ha,hi⟩:=hx (by have:=i.2;omega)
  obtain⟨cs,y,h1,h2,h3,-⟩:=hi i.1 i.2
  obtain⟨p,rfl,hp⟩:=int_of_trod h3
  refine⟨p,hp,fun b' o' ha'=>?_⟩
  rw[ha]at ha'
  cases ha'
  simpa using h2 0 (by simp)
 refine⟨List.ofFn fun i=>Classical.choose (hch i),a,cap,by simp,by simpa using hlen,?_,fun hne=>?_,hnil⟩
 ·intro p hp
  obtain⟨i,rfl⟩:=List.mem_ofFn.1 hp
  exact(Classical.choose_spec (hch i)).1
 ·have hpos:0 < len:=by
   rcases Nat.eq_zero_or_pos len with h | h
   ·subst h;simp at hne
   ·exact h
  obtain⟨b,o,ha,-⟩:=hx hpos
  refine⟨b,o,ha,fun k hk=>?_⟩
  simp only[List.length_ofFn]at hk
  have:=(Classical.choose_spec (hch ⟨k,hk⟩)).2 b o ha
  simpa using this
set_option maxRecDepth 100000 in
theorem JG {r:Go.Reach} {b0:Nat} {v:Value} {d:DataW H} {p:List MemPlace}
  (hv:Value.okWide Tryd.prog w r b0 29 v) (h:DataW.Trod enc Tryd.prog w 0 sp held 29 v d p):
  ∃ L,jq w L v∧((∀ n∈d.weights Tryd.prog 29,n≤reachBytes)→∀ a∈L,a.reads.length*16≤reachBytes∧a.writes.length*16≤reachBytes):=by
 obtain⟨a,len,cap,rfl⟩:=okWide_slice Tryd.underlying29 hv
 obtain⟨fuel,hf⟩:=h
 exact CU hf
set_option maxRecDepth 100000 in
theorem JF {r:Go.Reach} {b0:Nat} {v:Value} {d:DataW H} {p:List MemPlace}
  (hv:Value.okWide Tryd.prog w r b0 32 v) (h:DataW.Trod enc Tryd.prog w 0 sp held 32 v d p):∃ l,Ff w l v:=by
 obtain⟨a,len,cap,rfl⟩:=okWide_slice Tryd.underlying32 hv
 obtain⟨fuel,hf⟩:=h
 exact Cm hf
end
end Go.Proofs.YtcddlnmcjmhbcaaDoor
namespace Go.Proofs.YtcddlnmcjmhbcaaDoor
set_option linter.unusedVariables false
set_option linter.unusedSimpArgs false
open Go Go.RowKit
def pW (n:Nat) (f:Nat→Bool):Array Value:=((List.range n).map fun j=>Value.bool (f j)).toArray
theorem rZ {n:Nat} {f:Nat→Bool} {i:Nat} (h:i < n):(pW n f)[i]? =some (.bool (f i)):=by
 unfold pW
 rw[List.getElem?_toArray,List.getElem?_map,List.getElem?_range h];rfl
theorem Hw {n:Nat} {f g:Nat→Bool} (h:∀ i,i < n→f i=g i):pW n f=pW n g:=by
 unfold pW
 congr 1
 exact List.map_congr_left fun i hi=>by rw[h i (List.mem_range.1 hi)]
def vT (f:Nat→Bool) (i:Nat) (x:Bool):Nat→Bool:=fun j=>if j=i then x else f j
theorem stB {w:World} {G n:Nat} {f:Nat→Bool} {t:TypeId} (h:aA w G (pW n f) t) (i:Nat) (x:Bool):aA (w.setCell ⟨G,i,none⟩ (.bool x)) G (pW n (vT f i x)) t:=by
 have h1:=h.set i (.bool x)
 have e:(pW n f).setIfInBounds i (.bool x)=pW n (vT f i x):=by
  unfold pW
  rw[List.setIfInBounds_toArray]
  congr 1
  refine List.ext_getElem? fun j=>?_
  rw[List.getElem?_set,List.getElem?_map,List.getElem?_map]
  by_cases hj:j < n
  ·rw[List.getElem?_range hj]
   by_cases e:i=j
   ·subst e;rw[if_pos rfl,if_pos (by simpa using hj)];simp[vT]
   ·rw[if_neg e];simp[vT,Ne.symm e]
  ·rw[List.getElem?_eq_none (by simp;omega)]
   by_cases e:i=j
   ·subst e;rw[if_pos rfl,if_neg (by simpa using hj)];rfl
   ·rw[if_neg e];rfl
 rwa [e]at h1
theorem JY (n:Nat):madeCells #[Value.bool false] (n*1)=pW n fun _=>false:=by
 rw[sO _ 1 n rfl (by omega)]
 unfold fH pW
 congr 1
 induction n with
 | zero=>rfl
 | succ n ih=>rw[List.replicate_succ',List.flatten_append,ih,List.range_succ,List.map_append];rfl
theorem VA:(Tryd.prog.info? 4).map (fun i=>(i.zero,i.size,i.bytes))=some (some (.bool false),1,1):=by kernel_rfl
theorem PX (W:World) (n:Nat) (hn:n≤2000):(Instr.makeSlice 76 (.int .i64 (n:Int)) (.int .i64 (n:Int))).run Tryd.prog W=.ok (.slice (some ⟨W.heap.size,0,none⟩) n n) (W.alloc (.cells (pW n fun _=>false) 4)):=by
 obtain⟨i0,hi,hz0,hz1,hz2⟩:=info_parts VA
 rw[run_make W 76 4 i0 _ Tryd.underlying76 hi hz0 .i64 .i64 n n (by omega) (by omega) (by rw[hz2];omega) (by omega),hz1]
 simp only[Int.toNat_natCast]
 rw[show(Value.bool false).cells=#[Value.bool false]from rfl,JY]
theorem Bi {α:Type} {l:List α} {p:α→Bool} {k:Nat} (h:k < l.length):(l.take (k+1)).any p=((l.take k).any p||p l[k]):=by
 rw[List.take_succ_eq_append_getElem h,List.any_append]
 simp
theorem BN {L:List aH} {a b:Nat} {f:Nat→Bool} (h:f a=false∨f b=true∨oQ L a b=false):pM L a b f=f:=by
 unfold pM
 rw[if_neg]
 rcases h with h | h | h <;> simp[h]
theorem Me {L:List aH} {a b:Nat} {f:Nat→Bool} (h1:f a=true) (h2:f b=false) (h3:oQ L a b=true):pM L a b f=vT f b true:=by
 unfold pM
 rw[if_pos (by rw[h1,h2,h3];rfl)];rfl
theorem Gj (x:aH):(decide (0 < x.wv)=true∧(x.dI== -1)=true∧nI x=true)∨(decide (0 < x.wv)=true∧(x.dI== -1)=false∧nI x=false)∨(decide (0 < x.wv)=false∧nI x=false):=by
 unfold nI
 by_cases h1:0 < x.wv <;> by_cases h2:x.dI=-1 <;> simp[h1,h2]
theorem mg.shape {w:World} {l:List Nat} {v:Value} (h:mg w l v):∃ a cap,v=.slice a l.length cap:=by
 obtain⟨a,c,h,-⟩:=h
 exact⟨a,c,h⟩
def yN (L:List aH) (vars:List Int) (k:Nat):List Nat:=(List.range k).filter (gB L (Dl L vars) L.length)
theorem Gq (L:List aH) (vars:List Int) (k:Nat):yN L vars (k+1)=yN L vars k++if gB L (Dl L vars) L.length k=true then[k]else[]:=by
 unfold yN
 rw[List.range_succ,List.filter_append,List.filter_cons,List.filter_nil]
theorem J6 (L:List aH) (vars:List Int) (k:Nat):(yN L vars k).length≤k:=by
 have:=List.length_filter_le (gB L (Dl L vars) L.length) (List.range k)
 rwa [List.length_range]at this
theorem JM (l:List Nat) (k:Nat):rF (l++[k])=rF l++[.int .i64 (k:Int)]:=by unfold rF;rw[List.map_append];rfl
set_option maxRecDepth 100000 in
set_option maxHeartbeats 8000000 in
theorem Aw (L:List aH) (vars:List Int) (w:World) (sv vv:Value) (hr:jq w L sv) (hv:Ff w vars vv) (hlen:L.length≤2000) (hvl:vars.length≤2000):
  Calls Tryd.prog 19 #[sv,vv] w fun e w'=>∃ v,e=.returned v∧Below w.heap.size w w'∧mg w' (IL L vars) v:=by
 obtain⟨i0,hi0,hz0,hz1,hz2⟩:=info_parts Rh
 have HCT:=hid (fun(i:Nat) (v most:Int) (W:World) (h:Below w.heap.size w W) (hi:i < L.length)=>zB L i v most W _ (hr.below h) hi (by omega))
 have XT:=hid (fun(ia ib:Nat) (W:World) (h:Below w.heap.size w W) (ha:ia < L.length) (hb:ib < L.length)=>Og L ia ib W _ (hr.below h) ha hb (by omega))
 obtain⟨p,cap,rfl,-,hx⟩:=id hr
 obtain⟨q,aaf,rfl,-,-,hy,-⟩:=hv
 have HX:=hid hx
 have HY:=hid hy
 have HN:=hid hlen
 have HV:=hid hvl
 have hmk:=fun W=>PX W L.length hlen
 have b1:decide ((9223372036854775807:Int) < (L.length:Int))=false:=by rw[decide_eq_false_iff_not];omega
 have b2:decide ((L.length:Int) < 0)=false:=by rw[decide_eq_false_iff_not];omega
 clear hr hx hy hlen hvl
 go_enter Tryd.func19,Tryd.ntmps19
 go_wp2_with fail
 clear b1 b2 hmk
 go_loopw [6] (fun i wr=>∃ (k:Nat) (f:Nat→Bool),k≤L.length∧i=.int .i64 (k:Int)∧Hid (∀ j,j < k→f j=Dl L vars j)∧Hid (aA wr w.heap.size (pW L.length f) 4)∧Hid (Below w.heap.size w wr)) (fun i _=>L.length-(intOf i).toNat)
 case atStart=>exact⟨0,fun _=>false,Nat.zero_le _,rfl,hid (fun j h=>by omega),hid (aA.new w _ _),hid (ah (af _) _)⟩
 case round=>
  obtain⟨k,f,hk,rfl,HF,HG,HB⟩:=hrel
  by_cases hlt:k < L.length
  ·have hk0:(0:Int)≤(k:Int):=by omega
   have hk1:decide ((k:Int) < (L.length:Int))=true:=decide_eq_true (by omega)
   have hk3:decide (k < L.length)=true:=decide_eq_true hlt
   have hk5:(k:Int) < (L.length:Int):=by omega
   have dX:Hid (IntKind.i64.wrap ((k:Int)+1)=(k:Int)+1):=hid (IntWalk.i64_in _ (by have:=HN.out;omega))
   have bf:=hid hlt
   obtain⟨b,o,rfl,hc⟩:=HX.out (by intro h;rw[h]at hlt;simp at hlt)
   obtain⟨r,u,hm⟩:=hc k hlt
   have c3:=later HB.out hm.c3
   have c5:=later HB.out hm.c5
   obtain⟨XB,cg⟩:∃ v,wr.cell? ⟨w.heap.size,k,none⟩=some v:=⟨_,HG.out.cell k (rZ hlt)⟩
   have z:=HG.out.free k
   have Ld:Hid (L.getD k aH.zero=L[k]):=hid (getD_at hlt)
   generalize L[k]=x at*
   clear hlt hk hc hm
   rcases Gj x with⟨g1,g2,g3⟩ | ⟨g1,g2,g3⟩ | ⟨g1,g3⟩
   all_goals
    have UA:=hid g3
    clear g3
    go_wp2_with fail
    have WW:=hid (fun(v:Bool) j (h:j < k)=>(show vT f k v j=Dl L vars j by unfold vT;rw[if_neg (by omega)];exact HF.out j h))
    have HB1:=hid (HB.out.setCell (p:=⟨w.heap.size,k,none⟩) (Nat.le_refl _) (.bool (nI x)))
    have ZT:=hid (stB HG.out k (nI x))
    have HF2:=WW.out (nI x)
    rw[UA.out]at HB1 ZT HF2
    have HE:=dX.out
    clear HF WW HG HB cg c3 c5 z
    go_loopw [7] (fun y wq=>∃ (m:Nat) (f':Nat→Bool),m≤vars.length∧y=.int .i64 (m:Int)∧Hid (∀ j,j < k→f' j=Dl L vars j)∧Hid (f' k=(nI (L.getD k aH.zero)||(vars.take m).any fun v=>dG L k v (-1)))∧Hid (aA wq w.heap.size (pW L.length f') 4)∧Hid (Below w.heap.size w wq)) (fun y _=>vars.length-(intOf y).toNat)
    case atStart=>exact⟨0,_,Nat.zero_le _,rfl,hid HF2,hid (by rw[Ld.out,UA.out];simp[vT]),ZT,HB1⟩
    case round=>
     clear HF2 ZT HB1
     obtain⟨m,f',hm,rfl,HF,WU,HG,HB⟩:=hrel
     obtain⟨XB,hcg⟩:∃ v,v=f' k:=⟨_,rfl⟩
     have cg:wr.cell? ⟨w.heap.size,k,none⟩=some (Value.bool XB):=by rw[hcg];exact HG.out.cell k (rZ bf.out)
     have O1:=hid hcg
     have z:=HG.out.free k
     clear hcg
     by_cases hlm:m < vars.length
     ·obtain⟨vb,vo,rfl,Ri⟩:=HY.out (by intro h;rw[h]at hlm;simp at hlm)
      have d:=later HB.out (Ri m hlm)
      have hm0:(0:Int)≤(m:Int):=by omega
      have hm1:decide ((m:Int) < (vars.length:Int))=true:=decide_eq_true (by omega)
      have hm3:decide (m < vars.length)=true:=decide_eq_true hlm
      have hm5:(m:Int) < (vars.length:Int):=by omega
      have ZO:Hid (IntKind.i64.wrap ((m:Int)+1)=(m:Int)+1):=hid (IntWalk.i64_in _ (by have:=HV.out;omega))
      have Lc:=hid hlm
      have HS:Hid (∀ x,x=(XB||dG L k vars[m] (-1))→vT f' k x k=(nI (L.getD k aH.zero)||(vars.take (m+1)).any fun v=>dG L k v (-1))):=hid (fun x hx=>by rw[Bi Lc.out,←Bool.or_assoc,←WU.out,←O1.out];show(if k=k then x else f' k)=_;rw[if_pos rfl];exact hx)
      have WW:=hid (fun(v:Bool) j (h:j < k)=>(show vT f' k v j=Dl L vars j by unfold vT;rw[if_neg (by omega)];exact HF.out j h))
      have HC1:=hid (HCT.out k vars[m] (-1) wr HB.out bf.out)
      generalize vars[m]=y at*
      clear hlm hm Ri HF
      have hm4:=ZO.out
      cases XB with
      | true=>
       go_wp2_with fail
       go_roundw
       case rel=>exact⟨m+1,vT f' k true,Lc.out,by go_num,hid (WW.out true),hid (HS.out true rfl),hid (stB HG.out k true),hid (HB.out.setCell (p:=⟨w.heap.size,k,none⟩) (Nat.le_refl _) _)⟩
       case measure=>simp[intOf];have:=Lc.out;omega
      | false=>
       generalize dG L k y (-1)=cq at*
       go_wp2_with fail
       refine HC1.out.mono ?_
       rintro e' w2 ⟨rfl,hb2⟩
       have HB2:=hid (ag HB.out hb2)
       have HG2:=hid (HG.out.below hb2)
       have cg2:=later hb2 cg
       have z2:=HG2.out.free k
       clear hb2 cg z d
       go_wp2_with fail
       go_roundw
       case rel=>exact⟨m+1,vT f' k cq,Lc.out,by go_num,hid (WW.out cq),hid (HS.out cq (by simp)),hid (stB HG2.out k cq),hid (HB2.out.setCell (p:=⟨w.heap.size,k,none⟩) (Nat.le_refl _) _)⟩
       case measure=>simp[intOf];have:=Lc.out;omega
     ·obtain rfl:m=vars.length:=by omega
      have hm1:decide ((vars.length:Int) < (vars.length:Int))=false:=decide_eq_false (by omega)
      have HFI:=hid (show f' k=Dl L vars k by rw[WU.out,List.take_length];rfl)
      clear hm hlm cg z
      go_wp2_with fail
      go_roundw
      case rel=>exact⟨k+1,f',bf.out,by go_num,hid (fun j hj=>by
       by_cases e:j=k
       ·rw[e];exact HFI.out
       ·exact HF.out j (by omega)),HG,HB⟩
      case measure=>simp[intOf];have:=bf.out;omega
  ·obtain rfl:k=L.length:=by omega
   have hk1:decide ((L.length:Int) < (L.length:Int))=false:=decide_eq_false (by omega)
   have HG0:Hid (aA wr w.heap.size (pW L.length (gB L (Dl L vars) 0)) 4):=hid (by show aA wr w.heap.size (pW L.length (Dl L vars)) _;rw[←Hw HF.out];exact HG.out)
   clear HG HF hk hlt
   go_wp2_with fail
   clear hk1
   go_loopw [8] (fun i wr=>∃ t:Nat,t≤L.length∧i=.int .i64 (t:Int)∧Hid (aA wr w.heap.size (pW L.length (gB L (Dl L vars) t)) 4)∧Hid (Below w.heap.size w wr)) (fun i _=>L.length-(intOf i).toNat)
   case atStart=>exact⟨0,Nat.zero_le _,rfl,HG0,HB⟩
   case round=>
    clear HG0 HB
    obtain⟨t,ht,rfl,HG,HB⟩:=hrel
    by_cases hlt:t < L.length
    ·have ht1:decide ((t:Int) < (L.length:Int))=true:=decide_eq_true (by omega)
     have ht3:decide (t < L.length)=true:=decide_eq_true hlt
     have HT4:Hid (IntKind.i64.wrap ((t:Int)+1)=(t:Int)+1):=hid (IntWalk.i64_in _ (by have:=HN.out;omega))
     have bf:=hid hlt
     obtain⟨F,hF⟩:∃ F,F=gB L (Dl L vars) t:=⟨_,rfl⟩
     rw[←hF]at HG
     have HFT:Hid (pK L F L.length=gB L (Dl L vars) (t+1)):=hid (by rw[hF];rfl)
     clear hlt ht hF
     go_wp2_with fail
     go_loopw [9] (fun i wr=>∃ a:Nat,a≤L.length∧i=.int .i64 (a:Int)∧Hid (aA wr w.heap.size (pW L.length (pK L F a)) 4)∧Hid (Below w.heap.size w wr)) (fun i _=>L.length-(intOf i).toNat)
     case atStart=>exact⟨0,Nat.zero_le _,rfl,HG,HB⟩
     case round=>
      clear HG HB
      obtain⟨a,ha,rfl,HG,HB⟩:=hrel
      by_cases hla:a < L.length
      ·have ha1:decide ((a:Int) < (L.length:Int))=true:=decide_eq_true (by omega)
       have ha0:(0:Int)≤(a:Int):=by omega
       have ha3:decide (a < L.length)=true:=decide_eq_true hla
       have ha5:(a:Int) < (L.length:Int):=by omega
       have HA4:Hid (IntKind.i64.wrap ((a:Int)+1)=(a:Int)+1):=hid (IntWalk.i64_in _ (by have:=HN.out;omega))
       have XM:=hid hla
       obtain⟨E,hE⟩:∃ E,E=pK L F a:=⟨_,rfl⟩
       rw[←hE]at HG
       have ZW:Hid (vZ L a E L.length=pK L F (a+1)):=hid (by rw[hE];rfl)
       clear hla ha hE
       go_wp2_with fail
       go_loopw [10] (fun i wr=>∃ b:Nat,b≤L.length∧i=.int .i64 (b:Int)∧Hid (aA wr w.heap.size (pW L.length (vZ L a E b)) 4)∧Hid (Below w.heap.size w wr)) (fun i _=>L.length-(intOf i).toNat)
       case atStart=>exact⟨0,Nat.zero_le _,rfl,HG,HB⟩
       case round=>
        clear HG HB
        obtain⟨b,hb,rfl,HG,HB⟩:=hrel
        by_cases hlb:b < L.length
        ·have hk1:decide ((b:Int) < (L.length:Int))=true:=decide_eq_true (by omega)
         have hb0:(0:Int)≤(b:Int):=by omega
         have hb3:decide (b < L.length)=true:=decide_eq_true hlb
         have hb5:(b:Int) < (L.length:Int):=by omega
         have hb4:IntKind.i64.wrap ((b:Int)+1)=(b:Int)+1:=IntWalk.i64_in _ (by have:=HN.out;omega)
         have QN:=hid hlb
         obtain⟨D,hD⟩:∃ D,D=vZ L a E b:=⟨_,rfl⟩
         rw[←hD]at HG
         have OC:Hid (pM L a b D=vZ L a E (b+1)):=hid (by rw[hD];rfl)
         have ca:=HG.out.cell a (rZ XM.out)
         have cb:=HG.out.cell b (rZ hlb)
         obtain⟨va,hva⟩:∃ v,v=D a:=⟨_,rfl⟩
         obtain⟨vb,hvb⟩:∃ v,v=D b:=⟨_,rfl⟩
         rw[←hva]at ca
         rw[←hvb]at cb
         have HVA:=hid hva
         have HVB:=hid hvb
         clear hlb hb hD hva hvb
         cases va with
         | false=>
          have HX:=hid (BN (L:=L) (b:=b) (.inl HVA.out.symm))
          go_wp2_with fail
          go_roundw
          case rel=>exact⟨b+1,QN.out,by go_num,hid (by rw[←OC.out,HX.out];exact HG.out),HB⟩
          case measure=>simp[intOf];have:=QN.out;omega
         | true=>
          cases vb with
          | true=>
           have HX:=hid (BN (L:=L) (a:=a) (.inr (.inl HVB.out.symm)))
           go_wp2_with fail
           go_roundw
           case rel=>exact⟨b+1,QN.out,by go_num,hid (by rw[←OC.out,HX.out];exact HG.out),HB⟩
           case measure=>simp[intOf];have:=QN.out;omega
          | false=>
           have HA1:=hid (XT.out a b wr HB.out XM.out QN.out)
           obtain⟨qa,hqa⟩:∃ q,q=oQ L a b:=⟨_,rfl⟩
           rw[←hqa]at HA1
           have HQ:=hid hqa
           clear hqa
           cases qa with
           | false=>
            have HX:=hid (BN (f:=D) (.inr (.inr HQ.out.symm)))
            go_wp2_with fail
            refine HA1.out.mono ?_
            rintro e' w2 ⟨rfl,hb2⟩
            have HB2:=hid (ag HB.out hb2)
            have HG2:=hid (HG.out.below hb2)
            clear hb2 ca cb
            go_wp2_with fail
            go_roundw
            case rel=>exact⟨b+1,QN.out,by go_num,hid (by rw[←OC.out,HX.out];exact HG2.out),HB2⟩
            case measure=>simp[intOf];have:=QN.out;omega
           | true=>
            have HX:=hid (Me HVA.out.symm HVB.out.symm HQ.out.symm)
            go_wp2_with fail
            refine HA1.out.mono ?_
            rintro e' w2 ⟨rfl,hb2⟩
            have HB2:=hid (ag HB.out hb2)
            have HG2:=hid (HG.out.below hb2)
            have cb2:=later hb2 cb
            have z2:=HG2.out.free b
            clear hb2 ca cb
            go_wp2_with fail
            go_roundw
            case rel=>exact⟨b+1,QN.out,by go_num,hid (by rw[←OC.out,HX.out];exact stB HG2.out b true),hid (HB2.out.setCell (p:=⟨w.heap.size,b,none⟩) (Nat.le_refl _) _)⟩
            case measure=>simp[intOf];have:=QN.out;omega
        ·obtain rfl:b=L.length:=by omega
         have hk1:decide ((L.length:Int) < (L.length:Int))=false:=decide_eq_false (by omega)
         have ha4:=HA4.out
         clear hb hlb
         go_wp2_with fail
         go_roundw
         case rel=>exact⟨a+1,XM.out,by go_num,hid (by rw[←ZW.out];exact HG.out),HB⟩
         case measure=>simp[intOf];have:=XM.out;omega
      ·obtain rfl:a=L.length:=by omega
       have hk1:decide ((L.length:Int) < (L.length:Int))=false:=decide_eq_false (by omega)
       have ht4:=HT4.out
       clear ha hla
       go_wp2_with fail
       go_roundw
       case rel=>exact⟨t+1,bf.out,by go_num,hid (by rw[←HFT.out];exact HG.out),HB⟩
       case measure=>simp[intOf];have:=bf.out;omega
    ·obtain rfl:t=L.length:=by omega
     have hk1:decide ((L.length:Int) < (L.length:Int))=false:=decide_eq_false (by omega)
     clear ht hlt
     go_wp2_with fail
     clear hk1
     obtain⟨W0,hW0⟩:∃ W0,W0=wr:=⟨_,rfl⟩
     rw[←hW0]at HG HB
     have HGL:=hid HG.out.lt
     go_loopw [11,12] (fun y i wr=>∃ k:Nat,k≤L.length∧i=.int .i64 (k:Int)∧Hid (wr.ownsRow W0.heap.size 3 1 y (yN L vars k).length (rF (yN L vars k)))∧Hid (Below W0.heap.size W0 wr)) (fun _ i _=>L.length-(intOf i).toNat)
     case atStart=>exact⟨0,Nat.zero_le _,rfl,hid (World.ownsRow_nil _ _ _ _),hid (by rw[hW0];exact af _)⟩
     case round=>
      clear hW0
      obtain⟨k,hk,rfl,HO,HB2⟩:=hrel
      by_cases hlk:k < L.length
      ·have hk0:(0:Int)≤(k:Int):=by omega
       have hk1:decide ((k:Int) < (L.length:Int))=true:=decide_eq_true (by omega)
       have hk3:decide (k < L.length)=true:=decide_eq_true hlk
       have hk5:(k:Int) < (L.length:Int):=by omega
       have hk4:IntKind.i64.wrap ((k:Int)+1)=(k:Int)+1:=IntWalk.i64_in _ (by have:=HN.out;omega)
       have QM:=hid hlk
       have cg:=later HB2.out (HG.out.cell k (rZ hlk))
       obtain⟨va,hva⟩:∃ v,v=gB L (Dl L vars) L.length k:=⟨_,rfl⟩
       rw[←hva]at cg
       have UE:=hid (Gq L vars k)
       rw[←hva]at UE
       clear hlk hk hva
       cases va with
       | false=>
        go_wp2_with fail
        go_roundw
        case rel=>exact⟨k+1,QM.out,by go_num,hid (by rw[UE.out];simpa using HO.out),HB2⟩
        case measure=>simp[intOf];have:=QM.out;omega
       | true=>
        obtain⟨py,cy,rfl⟩:=(iQ HO.out).shape
        have LC:=hid (Nat.le_trans (J6 L vars k) (Nat.le_of_lt QM.out))
        have hown1:=fC HO.out (ah (af _) (.cells #[.int .i64 (k:Int)] 3))
        have hb4:Below W0.heap.size W0 (wr.alloc (.cells #[.int .i64 (k:Int)] 3)):=ah HB2.out _
        have cn:=(aA.new wr #[.int .i64 (k:Int)] 3).cell 0 (v:=.int .i64 (k:Int)) rfl
        go_wp2_with (first
         | (at_builtin;refine wpList_append_own_at _ rfl (.tmp 109) (.tmp 111) 32 rfl W0.heap.size 3 i0 _ 1 8 Tryd.underlying32 hi0 hz0 hz1 hz2 rfl (by decide) (.slice py (yN L vars k).length cy) _ _ rfl hown1 ⟨wr.heap.size,0,none⟩ 1 1 [.int .i64 (k:Int)] rfl rfl (by intro j u hu;cases j with | zero=>(simp at hu;subst hu;exact cn) | succ j=>(simp at hu)) (by intro u hu;simp at hu;subst hu;rfl) (by have:=LC.out;have:=HN.out;unfold maxLen;omega) (by have:=LC.out;have:=HN.out;omega) hb4.size ?_;intro v' w5 hown' hg hn hd;obtain⟨g,cp,rfl⟩:=fA hown'))
        have qN:=hid (hb4.grown hg hb4.size (fun k hk=>(hown1.lt k hk).1))
        have HO2:=hid hown'
        clear hown' hg hn hd hown1 hb4 cn cg
        go_wp2_with fail
        go_roundw
        case rel=>exact⟨k+1,QM.out,by go_num,hid (by rw[UE.out,if_pos rfl,JM,List.length_append];exact HO2.out),qN⟩
        case measure=>simp[intOf];have:=QM.out;omega
      ·obtain rfl:k=L.length:=by omega
       have hk1:decide ((L.length:Int) < (L.length:Int))=false:=decide_eq_false (by omega)
       clear hk hlk
       go_wp2_with fail
       go_ret
       exact⟨_,rfl,ag HB.out HB2.out,iQ HO.out⟩
theorem Rw.pairs {w:World} {l:List (Int×Int)} {v:Value} (h:Rw w l v) (hb:∀ p∈l,tu p.1∧tu p.2):fJ w l v:=by
 obtain⟨a,cap,h1,h2,h3⟩:=h
 exact⟨a,cap,h1,by omega,hb,h3⟩
theorem OX.YY {w:World} {L:List aH} {v:Value} (h:OX w L v) (hN:∀ q∈L,EZ q):jq w L v:=by
 obtain⟨a,cap,h1,h2,h3⟩:=h
 refine⟨a,cap,h1,by omega,fun hne=>?_⟩
 obtain⟨b,o,e,hc⟩:=h3 hne
 refine⟨b,o,e,fun k hk=>?_⟩
 obtain⟨r,u,m⟩:=hc k hk
 obtain⟨n1,n2,n3⟩:=hN _ (List.getElem_mem hk)
 exact⟨r,u,n1,m.c0,m.c1,m.c2,m.c3,m.c4,m.c5,m.c6,m.c7,m.c8,m.reads.pairs n2,m.writes.pairs n3⟩
theorem yR {K:List Nat} {o:Int} {m:Nat} (h:m < K.length):AU (K.take (m+1)) o=(AU (K.take m) o||decide ((K[m]:Int)=o)):=by
 unfold AU
 rw[List.take_succ_eq_append_getElem h]
 by_cases ho:0≤o
 ·obtain⟨n,rfl⟩:∃ n:Nat,o=(n:Int):=⟨o.toNat,by omega⟩
  have e:decide ((K[m]:Int)=(n:Int))=decide (n=K[m]):=by
   by_cases h:n=K[m]
   ·rw[decide_eq_true h,decide_eq_true (by omega)]
   ·rw[decide_eq_false h,decide_eq_false (by omega)]
  rw[e,decide_eq_true ho,Bool.true_and,Bool.true_and,Int.toNat_natCast,←Bool.decide_or]
  have e2:(n∈K.take m++[K[m]])↔(n∈K.take m∨n=K[m]):=by rw[List.mem_append,List.mem_singleton]
  simp only[e2]
 ·rw[decide_eq_false ho,decide_eq_false (show ¬ (K[m]:Int)=o by omega)];rfl
theorem Qb {K:List Nat} (hs:gQ K) {m:Nat} (h:m < K.length):AU (K.take m) (K[m]:Int)=false:=by
 unfold AU
 rw[Bool.and_eq_false_iff]
 right
 rw[decide_eq_false_iff_not,Int.toNat_natCast]
 intro hm
 obtain⟨j,hj,e⟩:=List.mem_iff_getElem.1 hm
 rw[List.length_take]at hj
 rw[List.getElem_take]at e
 have:=List.pairwise_iff_getElem.1 hs j m (by omega) h (by omega)
 omega
def KX (W4 wr:World) (T V S:Int) (l:List Ev) (K:List Nat) (k m:Nat) (cur:Value):Prop:=
 (AU (K.take m) (mD l k)=false∧Bz W4 wr T V S l K k cur)∨(AU (K.take m) (mD l k)=true∧Bz W4 wr T V S l K (k+1) cur)
section
variable {W4 wr W1 W2:World} {T V S:Int} {l:List Ev} {K:List Nat} {k m:Nat} {cur:Value}
theorem Bz.below (H:Bz W4 wr T V S l K k cur) (hb:Below wr.heap.size wr W1):Bz W4 W1 T V S l K k cur:=⟨ag H.low hb,H.u.below hb,fC H.own hb⟩
theorem KX.start (H:Bz W4 wr T V S l K k cur):KX W4 wr T V S l K k 0 cur:=.inl ⟨by unfold AU;simp,H⟩
theorem KX.low (H:KX W4 wr T V S l K k m cur):Below W4.heap.size W4 wr:=by
 rcases H with⟨-,H⟩ | ⟨-,H⟩ <;> exact H.low
theorem KX.no (H:KX W4 wr T V S l K k m cur) (hm:m < K.length) (hq:(K[m]:Int)≠mD l k) (hb:Below wr.heap.size wr W1):KX W4 W1 T V S l K k (m+1) cur:=by
 rcases H with⟨h1,H⟩ | ⟨h1,H⟩
 ·exact .inl ⟨by rw[yR hm,h1,decide_eq_false hq];rfl,H.below hb⟩
 ·exact .inr ⟨by rw[yR hm,h1];rfl,H.below hb⟩
theorem KX.yes (hs:gQ K) (H:KX W4 wr T V S l K k m cur) (hm:m < K.length) (hq:(K[m]:Int)=mD l k):Bz W4 wr T V S l K k cur∧AU K (mD l k)=true∧AU (K.take (m+1)) (mD l k)=true:=by
 have h0:=Qb hs hm
 rw[hq]at h0
 rcases H with⟨h1,H⟩ | ⟨h1,H⟩
 ·refine⟨H,?_,by rw[yR hm,decide_eq_true hq];simp⟩
  rw[←hq]
  unfold AU
  rw[decide_eq_true (by omega),decide_eq_true (by rw[Int.toNat_natCast];exact List.getElem_mem hm)];rfl
 ·rw[h0]at h1;cases h1
theorem KX.done (H:KX W4 wr T V S l K k K.length cur) (hk:k < l.length):Bz W4 wr T V S l K (k+1) cur:=by
 rcases H with⟨h1,H⟩ | ⟨h1,H⟩
 ·rw[List.take_length]at h1
  exact H.skip hk h1 (af _)
 ·exact H
end
theorem JE (V y:Int):((decide (y < 0)=true∧kX V y=true)∨(decide (y < 0)=false∧decide (V≤y)=true∧kX V y=true))∨(decide (y < 0)=false∧decide (V≤y)=false∧kX V y=false):=by
 unfold kX
 by_cases h1:y < 0 <;> by_cases h2:V≤y <;> simp[h1,h2]
theorem PR {V:Int} {l:List Int} {k:Nat} (h:k < l.length):(l.take (k+1)).any (kX V)=((l.take k).any (kX V)||kX V l[k]):=Bi h
set_option maxRecDepth 100000 in
set_option maxHeartbeats 8000000 in
theorem PG (T V S:Int) (a:Option Addr) (l:List Ev) (cap:Nat) (vars:List Int) (vv:Value) (w:World) (hl:l.length≤600) (hvl:vars.length≤50) (hcap:l.length≤cap) (hV:Ff w vars vv) (hE:cO w a l) (hN:kL w):
  Calls Tryd.prog 17 #[oZ T V S a l.length cap,vv] w (Bv T V S l vars w):=by
 have HC:=hid (fun W (hW:Below w.heap.size w W)=>Px T V S a l cap W (hE.below hW) (by omega) hcap (hN.below hW))
 have HS:=hid (fun W (hW:Below w.heap.size w W)=>FY T V S a l cap W (hE.below hW) (by omega) hcap (hN.below hW))
 unfold YZ at HC
 unfold Ic at HS
 have HP:∀ c W',c=(aW T V S l).2→c≠0→Below w.heap.size w W'→Bv T V S l vars w (.returned (.tuple #[.agg #[.int .i64 0,.int .i64 0,.int .i64 0,.slice none 0 0],.int .i64 c])) W':=fun c W' hc0 hc hb=>by
  subst hc0
  have e:jV T V S l vars=(aW T V S l).2:=if_pos hc
  unfold Bv oP
  rw[e,if_neg hc]
  exact⟨0,0,0,_,rfl,hb,World.ownsRow_nil _ _ _ _,(fun h=>absurd h hc),fun _=>⟨rfl,rfl,rfl⟩⟩
 have XH:=hid (HP)
 have Us:(aW T V S l).2=0→∀ e w',(∃ v,e=.returned (.tuple #[.agg #[.int .i64 T,.int .i64 V,.int .i64 S,v],.int .i64 0])∧vars.any (kX V)=false∧Below w.heap.size w w'∧w'.ownsRow w.heap.size 49 7 v (mO l (kQ (az l).out vars) l.length).length ((mO l (kQ (az l).out vars) l.length).flatMap qM))→Bv T V S l vars w e w':=by
  rintro hc e w' ⟨v,rfl,hq,hb,ho⟩
  have e1:jV T V S l vars=0:=by unfold jV;rw[hc,if_neg (by decide),hq];rfl
  unfold Bv oP
  rw[e1,if_pos rfl]
  exact⟨T,V,S,v,rfl,hb,ho,(fun _=>⟨rfl,rfl,rfl⟩),fun h=>absurd rfl h⟩
 have Jf:(aW T V S l).2=0→∀ w',vars.any (kX V)=true→Below w.heap.size w w'→Bv T V S l vars w (.returned (.tuple #[.agg #[.int .i64 0,.int .i64 0,.int .i64 0,.slice none 0 0],.int .i64 1])) w':=by
  intro hc w' hq hb
  have e1:jV T V S l vars=1:=by unfold jV;rw[hc,if_neg (by decide),hq];rfl
  unfold Bv oP
  rw[e1,if_neg (by decide)]
  exact⟨0,0,0,_,rfl,hb,World.ownsRow_nil _ _ _ _,(fun h=>by cases h),fun _=>⟨rfl,rfl,rfl⟩⟩
 obtain⟨hs1,hs2⟩:=uj (l:=l)
 have hNN:=EJ hE.1 (by omega)
 have hist:(aW T V S l).2=0→(az l).out=AA l∧Fa l=nD l:=fun hc=>by
  obtain⟨s,hs⟩:=(rX hc).2.2
  exact⟨hs.AA,hs.nD⟩
 have OB:=hid (fun(hc:(aW T V S l).2=0) w' vl vv (h1:OX w' (AA l) vl) h2=>Aw (az l).out vars w' vl vv (by rw[(hist hc).1];exact h1.YY (by rw[←(hist hc).1];exact hNN)) h2 (by omega) (by omega))
 rw[wS]at OB
 have hof:=BU l
 have XD:Hid ((aW T V S l).2=0→nD l=(List.range l.length).map (mD l)):=hid (fun hc=>by rw[←(hist hc).2];exact hof)
 have UE:=hid (lM (az l).out vars).1
 have uA:Hid ((kQ (az l).out vars).length≤600):=hid (by have:=AP (L:=(az l).out) (vars:=vars);omega)
 have Us:=hid Us
 have Jf:=hid Jf
 clear HP
 generalize kQ (az l).out vars=K at*
 obtain⟨Q,hQ⟩:∃ Q,Q=Bv T V S l vars w:=⟨_,rfl⟩
 rw[←hQ]at XH Us Jf⊢
 obtain⟨q,hq0⟩:∃ q,q=(aW T V S l).2:=⟨_,rfl⟩
 rw[←hq0]at HC HS XH Us Jf OB XD
 have HV:=hid hV
 have HE:=hid hE
 have HL:=hid hl
 have HVL:=hid hvl
 obtain⟨av,cv,rfl,-,-,hy,-⟩:=id hV
 have HY:=hid hy
 obtain⟨ti,hti,hz0,hz1,hz2⟩:=info_parts IU
 clear hV hE hN hQ hs1 hs2 hNN hist hof hl hvl hcap hq0 hy
 dsimp only[oZ]at HC HS⊢
 have HB:Hid (Below w.heap.size w ((w.alloc (.cells #[.int .i64 T,.int .i64 V,.int .i64 S,.slice a l.length cap] 24)).alloc (.cells #[.int .i64 0,.int .i64 0,.int .i64 0,.slice none 0 0] 24))):=hid (ah (ah (af _) _) _)
 have HX:=hid ((aA.new w #[.int .i64 T,.int .i64 V,.int .i64 S,.slice a l.length cap] 24).alloc (.cells #[.int .i64 0,.int .i64 0,.int .i64 0,.slice none 0 0] 24))
 have HZ:=hid (aA.new' (w.alloc (.cells #[.int .i64 T,.int .i64 V,.int .i64 S,.slice a l.length cap] 24)) #[.int .i64 0,.int .i64 0,.int .i64 0,.slice none 0 0] 24 (World.size_alloc _ _).symm)
 go_enter Tryd.func17,Tryd.ntmps17
 go_wp2_with fail
 refine(HC.out _ HB.out).mono ?_
 rintro e' w1 ⟨vo,rfl,hb1,hat⟩
 have CY:=hid (HX.out.below hb1)
 have HZ1:=hid (HZ.out.below hb1)
 have HB1:=hid (ag HB.out hb1)
 by_cases hc:q=0
 case neg=>
  have g1:(q==0)=false:=beq_eq_false_iff_ne.2 hc
  have g2:(q !=0)=true:=bne_iff_ne.2 hc
  have ZX:=hid hc
  have hz:=HZ1.out
  have f0:=hz.free 0
  have f1:=hz.free 1
  have f2:=hz.free 2
  have f3:=hz.free 3
  have c0:=hz.cell 0 (v:=.int .i64 0) rfl
  have c1:=hz.cell 1 (v:=.int .i64 0) rfl
  have c2:=hz.cell 2 (v:=.int .i64 0) rfl
  have c3:=hz.cell 3 (v:=.slice none 0 0) rfl
  clear hz hc hb1 hat
  go_wp2_with fail
  have hF:=Ac HZ1.out (.int .i64 0) (.int .i64 0) (.int .i64 0) (.slice none 0 0)
  have Eh:=sK HB1.out (Nat.le_succ _) (.int .i64 0) (.int .i64 0) (.int .i64 0) (.slice none 0 0)
  obtain⟨Wf,hWf⟩:∃ Wf,Wf=(((w1.setCell ⟨w.heap.size+1,0,none⟩ (.int .i64 0)).setCell ⟨w.heap.size+1,1,none⟩ (.int .i64 0)).setCell ⟨w.heap.size+1,2,none⟩ (.int .i64 0)).setCell ⟨w.heap.size+1,3,none⟩ (.slice none 0 0):=⟨_,rfl⟩
  rw[←hWf]at hF Eh⊢
  have q0:=hF.cell 0 (v:=.int .i64 0) rfl
  have q1:=hF.cell 1 (v:=.int .i64 0) rfl
  have q2:=hF.cell 2 (v:=.int .i64 0) rfl
  have q3:=hF.cell 3 (v:=.slice none 0 0) rfl
  exact bodyPost_ret (v:=.tuple #[.agg #[.int .i64 0,.int .i64 0,.int .i64 0,.slice none 0 0],.int .i64 q]) (by simp[results,Tryd.results17,go_sem,q0,q1,q2,q3]) rfl (XH.out _ _ rfl ZX.out Eh)
 subst hc
 replace XD:=hid (XD.out rfl)
 replace OB:=hid (OB.out rfl)
 replace Jf:=hid (Jf.out rfl)
 replace Us:=hid (Us.out rfl)
 replace hat:OX w1 (AA l) vo:=hat
 have HAT:=hid hat
 have d0:=CY.out.cell 0 (v:=.int .i64 T) rfl
 have d1:=CY.out.cell 1 (v:=.int .i64 V) rfl
 have d2:=CY.out.cell 2 (v:=.int .i64 S) rfl
 have d3:=CY.out.cell 3 (v:=.slice a l.length cap) rfl
 clear hb1 hat HX HZ HB XH
 go_wp2_with fail
 refine(HS.out _ HB1.out).mono ?_
 rintro e' w2 ⟨vf,rfl,hb2,hof⟩
 have hof:U1 w2 (nD l) vf:=hof
 rw[XD.out]at hof
 have KY:=hid (CY.out.below hb2)
 have HZ2:=hid (HZ1.out.below hb2)
 have QY:=hid (HAT.out.below hb2)
 have HB2:=hid (ag HB1.out hb2)
 have ZI:=hid hof
 clear hb2 hof CY HZ1 HAT HB1 d0 d1 d2 d3
 go_wp2_with fail
 go_loopw [10] (fun i wr=>∃ k:Nat,k≤vars.length∧i=.int .i64 (k:Int)∧Hid ((vars.take k).any (kX V)=false)∧Hid (Below w2.heap.size w2 wr)) (fun i _=>vars.length-(intOf i).toNat)
 case atStart=>exact⟨0,Nat.zero_le _,rfl,hid (by simp),hid (af _)⟩
 case round=>
  obtain⟨k,hk,rfl,Jg,fB⟩:=hrel
  by_cases hlt:k < vars.length
  ·obtain⟨vb,E8,rfl,Ri⟩:=HY.out (by intro h;rw[h]at hlt;simp at hlt)
   have c:=later (ag HB2.out fB.out) (Ri k hlt)
   have y1:=(KY.out.below fB.out).cell 1 (v:=.int .i64 V) rfl
   have hk0:(0:Int)≤(k:Int):=by omega
   have hk1:decide ((k:Int) < (vars.length:Int))=true:=decide_eq_true (by omega)
   have hk3:decide (k < vars.length)=true:=decide_eq_true hlt
   have hk5:(k:Int) < (vars.length:Int):=by omega
   have hk4:IntKind.i64.wrap ((k:Int)+1)=(k:Int)+1:=IntWalk.i64_in _ (by have:=HVL.out;omega)
   have bf:=hid hlt
   have UA:Hid ((vars.take (k+1)).any (kX V)=kX V vars[k]):=hid (by rw[PR hlt,Jg.out];rfl)
   have U8:Hid (kX V vars[k]=true→vars.any (kX V)=true):=hid (fun h=>List.any_eq_true.2 ⟨_,List.getElem_mem hlt,h⟩)
   generalize vars[k]=y at*
   clear hlt hk Ri
   rcases JE V y with hbad | ⟨p1,p2,p3⟩
   ·rcases hbad with⟨p1,p3⟩ | ⟨p1,p2,p3⟩
    all_goals
     have U8:=hid (U8.out p3)
     clear p3
     go_wp2_with fail
     go_quiet (fail)
     have HB3:Hid (Below w.heap.size w (wr.drewN nq)):=hid (ai (ag HB2.out fB.out) _)
     have HZ3:Hid (aA (wr.drewN nq) (w.heap.size+1) #[.int .i64 0,.int .i64 0,.int .i64 0,.slice none 0 0] 24):=hid ((HZ2.out.below fB.out).below (ai (af _) _))
     obtain⟨W3,hW3⟩:∃ W3,W3=wr.drewN nq:=⟨_,rfl⟩
     rw[←hW3]at HB3 HZ3⊢
     have hz:=HZ3.out
     have f0:=hz.free 0
     have f1:=hz.free 1
     have f2:=hz.free 2
     have f3:=hz.free 3
     have c0:=hz.cell 0 (v:=.int .i64 0) rfl
     have c1:=hz.cell 1 (v:=.int .i64 0) rfl
     have c2:=hz.cell 2 (v:=.int .i64 0) rfl
     have c3:=hz.cell 3 (v:=.slice none 0 0) rfl
     clear hz c y1 hW3
     go_wp2_with fail
     have hF:=Ac HZ3.out (.int .i64 0) (.int .i64 0) (.int .i64 0) (.slice none 0 0)
     have Eh:=sK HB3.out (Nat.le_succ _) (.int .i64 0) (.int .i64 0) (.int .i64 0) (.slice none 0 0)
     obtain⟨Wf,hWf⟩:∃ Wf,Wf=(((W3.setCell ⟨w.heap.size+1,0,none⟩ (.int .i64 0)).setCell ⟨w.heap.size+1,1,none⟩ (.int .i64 0)).setCell ⟨w.heap.size+1,2,none⟩ (.int .i64 0)).setCell ⟨w.heap.size+1,3,none⟩ (.slice none 0 0):=⟨_,rfl⟩
     rw[←hWf]at hF Eh⊢
     have q0:=hF.cell 0 (v:=.int .i64 0) rfl
     have q1:=hF.cell 1 (v:=.int .i64 0) rfl
     have q2:=hF.cell 2 (v:=.int .i64 0) rfl
     have q3:=hF.cell 3 (v:=.slice none 0 0) rfl
     exact bodyPost_ret (v:=.tuple #[.agg #[.int .i64 0,.int .i64 0,.int .i64 0,.slice none 0 0],.int .i64 1]) (by simp[results,Tryd.results17,go_sem,q0,q1,q2,q3]) rfl (Jf.out _ U8.out Eh)
   ·have Fp:Hid ((vars.take (k+1)).any (kX V)=false):=hid (by rw[UA.out,p3])
    clear p3
    go_wp2_with fail
    go_quiet (fail)
    go_wp2_with fail
    go_roundw
    case rel=>exact⟨k+1,bf.out,by go_num,Fp,hid (ai fB.out _)⟩
    case measure=>simp[intOf];have:=bf.out;omega
  ·obtain rfl:k=vars.length:=by omega
   have hk1:decide ((vars.length:Int) < (vars.length:Int))=false:=decide_eq_false (by omega)
   have Xk:Hid (vars.any (kX V)=false):=hid (by have:=Jg.out;rwa [List.take_length]at this)
   have HB3:=hid (ag HB2.out fB.out)
   clear hk hlt
   go_wp2_with fail
   refine(OB.out _ _ _ (QY.out.below fB.out) (HV.out.below HB3.out)).mono ?_
   rintro e' W4 ⟨vk,rfl,hb4,hok⟩
   have HB4:=hid (ag HB3.out hb4)
   have Je:=hid ((KY.out.below fB.out).below hb4)
   have EO:=hid ((HZ2.out.below fB.out).below hb4)
   have hof:=(ZI.out.below fB.out).below hb4
   obtain⟨ka,kc,rfl,hkc⟩:=hok
   obtain⟨oa,oc,rfl,-,hoc⟩:=hof
   rw[List.length_map,List.length_range]
   have HKC:=hid hkc
   have ZJ:Hid (∀ k,k < l.length→∃ b o,oa=some ⟨b,o,none⟩∧W4.cell? ⟨b,o+k,none⟩=some (.int .i64 (mD l k))):=hid (fun k hk=>by
    obtain⟨b,o,e,hc⟩:=hoc (by rw[Ne,List.map_eq_nil_iff,List.range_eq_nil];omega)
    refine⟨b,o,e,?_⟩
    have:=hc k (by simpa using hk)
    simpa using this)
   have Ui:Hid (w.heap.size+1 < W4.heap.size):=hid (EO.out.lt)
   have d0:=Je.out.cell 0 (v:=.int .i64 T) rfl
   have d1:=Je.out.cell 1 (v:=.int .i64 V) rfl
   have d2:=Je.out.cell 2 (v:=.int .i64 S) rfl
   have hz:=aA.new W4 #[.int .i64 0,.int .i64 0,.int .i64 0,.slice none 0 0] 24
   have f0:=hz.free 0
   have f1:=hz.free 1
   have f2:=hz.free 2
   have f3:=hz.free 3
   have c0:=hz.cell 0 (v:=.int .i64 0) rfl
   have c1:=hz.cell 1 (v:=.int .i64 0) rfl
   have c2:=hz.cell 2 (v:=.int .i64 0) rfl
   have c3:=hz.cell 3 (v:=.slice none 0 0) rfl
   clear hz hb4 hkc hoc hk1
   go_wp2_with fail
   go_loopw [13] (fun i wr=>∃ (k:Nat) (cur:Value),k≤l.length∧i=.int .i64 (k:Int)∧Hid (Bz W4 wr T V S l K k cur)) (fun i _=>l.length-(intOf i).toNat)
   case atStart=>exact⟨0,_,Nat.zero_le _,rfl,hid Bz.begin⟩
   case round=>
    clear d0 d1 d2 f0 f1 f2 f3 c0 c1 c2 c3 fB
    obtain⟨k,cur,hk,rfl,HI⟩:=hrel
    have d3:=(Je.out.below HI.out.low).cell 3 (v:=.slice a l.length cap) rfl
    by_cases hlt:k < l.length
    ·have hk0:(0:Int)≤(k:Int):=by omega
     have hk1:decide ((k:Int) < (l.length:Int))=true:=decide_eq_true (by omega)
     have hk3:decide (k < l.length)=true:=decide_eq_true hlt
     have hk5:(k:Int) < (l.length:Int):=by omega
     have dX:Hid (IntKind.i64.wrap ((k:Int)+1)=(k:Int)+1):=hid (IntWalk.i64_in _ (by have:=HL.out;omega))
     have bf:=hid hlt
     clear hlt hk
     go_wp2_with fail
     clear d3
     go_loopw [14] (fun y wr=>∃ (m:Nat) (cur:Value),m≤K.length∧y=.int .i64 (m:Int)∧Hid (KX W4 wr T V S l K k m cur)) (fun y _=>K.length-(intOf y).toNat)
     case atStart=>exact⟨0,_,Nat.zero_le _,rfl,hid (KX.start HI.out)⟩
     case round=>
      clear HI
      obtain⟨m,cur,hm,rfl,HI⟩:=hrel
      by_cases hlm:m < K.length
      ·obtain⟨kb,ko,rfl,hkc⟩:=HKC.out (by intro h;rw[h]at hlm;simp at hlm)
       obtain⟨ob,oo,rfl,hoc⟩:=ZJ.out k bf.out
       have ck:=later HI.out.low (hkc m hlm)
       have co:=later HI.out.low hoc
       have hm0:(0:Int)≤(m:Int):=by omega
       have hm1:decide ((m:Int) < (K.length:Int))=true:=decide_eq_true (by omega)
       have hm3:decide (m < K.length)=true:=decide_eq_true hlm
       have hm5:(m:Int) < (K.length:Int):=by omega
       have hm4:IntKind.i64.wrap ((m:Int)+1)=(m:Int)+1:=IntWalk.i64_in _ (by have:=uA.out;omega)
       have Lc:=hid hlm
       by_cases hq:(K[m]:Int)=mD l k
       ·have g1:((K[m]:Int)==mD l k)=true:=beq_iff_eq.2 hq
        obtain⟨hI,hin,hin2⟩:=HI.out.yes UE.out hlm hq
        have HBI:=hid hI
        have HIN:=hid hin
        have ZQ:=hid hin2
        generalize (K[m]:Int)=km at ck g1
        obtain⟨ok,hok⟩:∃ ok,ok=mD l k:=⟨_,rfl⟩
        rw[←hok]at co g1
        clear hkc hoc hlm hm hq hI hin hin2 HI hok
        go_wp2_with fail
        go_quiet (fail)
        go_wp2_with fail
        obtain⟨ca,cc,rfl⟩:=oH HBI.out.own
        obtain⟨bl,o,rfl,hev⟩:=XA HE.out (by intro h;have:=bf.out;rw[h]at this;simp at this)
        obtain⟨Wd,hWd⟩:∃ Wd,Wd=(wr.drewN nq).drew:=⟨_,rfl⟩
        have hbd:Below wr.heap.size wr Wd:=by rw[hWd];exact aj (ai (af _) _)
        have hI:=HBI.out.below hbd
        have hBw:Below w.heap.size w Wd:=ag HB4.out hI.low
        obtain⟨e0,e1,e2,e3,e4,e5,e6⟩:=hev Wd hBw k bf.out
        rcases iG:l[k]'bf.out with⟨kind,th,tx,at_,v,x,why⟩
        rw[iG]at e0 e1 e2 e3 e4 e5 e6
        dsimp only at e0 e1 e2 e3 e4 e5 e6
        obtain⟨Wt,Ll⟩:∃ Wt,Wt=Wd.alloc (.cells #[.int .u8 kind,.int .i64 th,.int .i64 tx,.int .i64 at_,.int .i64 v,.int .i64 x,.int .u8 why] 49):=⟨_,rfl⟩
        have hbt:Below Wd.heap.size Wd Wt:=by rw[Ll];exact ah (af _) _
        have hfr:=lS Wd #[.int .u8 kind,.int .i64 th,.int .i64 tx,.int .i64 at_,.int .i64 v,.int .i64 x,.int .u8 why] 49
        rw[←Ll]at hfr
        have hown:=fC hI.own hbt
        have hlen:=xP l K k
        obtain⟨v',w6,hrun,hown',hgrow,hnil,hblk⟩:=run_append_own_at (P:=Tryd.prog) Wt (W4.heap.size+1) 22 22 49 ti _ 7 56 Tryd.underlying22 hti hz0 hz1 hz2 rfl (by decide) (.slice ca (mO l K k).length cc) _ _ hown ⟨Wd.heap.size,0,none⟩ 1 1 [.int .u8 kind,.int .i64 th,.int .i64 tx,.int .i64 at_,.int .i64 v,.int .i64 x,.int .u8 why] rfl hfr (by simp[Value.oneCell']) (by have:=bf.out;have:=HL.out;unfold maxLen;omega) (by have:=bf.out;have:=HL.out;omega) (by have:=hI.u.lt;have:=hbt.size;omega)
        obtain⟨va,vc,rfl⟩:=oH hown'
        have UH:=hid (hI.add bf.out iG HIN.out hbt hown' hgrow)
        have UY:=(hI.u.below hbt).grown hgrow (bG hown (hI.u.below hbt) (by decide))
        have y3:=UY.cell 3 (v:=.slice ca (mO l K k).length cc) rfl
        have g3:=UY.free 3
        have u3:=hI.u.cell 3 (v:=.slice ca (mO l K k).length cc) rfl
        have u3':=later hbt u3
        have d3:=(Je.out.below hI.low).cell 3 (v:=.slice (some ⟨bl,o,none⟩) l.length cap) rfl
        have Wq:=hid Ll
        have Ik:=hid hrun
        have HWD:=hid hWd
        clear Ll hrun hWd hown hlen hown' hgrow hnil hblk UY hfr hI hBw hev iG hbd hbt ck co
        apply iI [.pointer (some ⟨W4.heap.size,3,none⟩),.slice ca (mO l K k).length cc,.pointer (some ⟨w.heap.size,3,none⟩),.slice (some ⟨bl,o,none⟩) l.length cap,.int .i64 (k:Int),.pointer (some ⟨bl,o+k*7,none⟩),.agg #[.int .u8 kind,.int .i64 th,.int .i64 tx,.int .i64 at_,.int .i64 v,.int .i64 x,.int .u8 why],.slice (some ⟨Wd.heap.size,0,none⟩) 1 1,.slice va ((mO l K k).length+1) vc,.pointer (some ⟨W4.heap.size,3,none⟩),undef] (lF _ 7 8 10 Wd Wt w6 (w6.setCell ⟨W4.heap.size,3,none⟩ (.slice va ((mO l K k).length+1) vc)))
        focus (simp[ay,aB,Act.put,List.getD];rfl)
        case hm=>kernel_rfl
        case hd=>kernel_rfl
        case hb=>kernel_rfl
        case kJ=>kernel_rfl
        case hsel=>kernel_rfl
        case iR=>kernel_rfl
        case hgv=>kernel_rfl
        case hsz=>kernel_rfl
        case jf=>exact fun l1 l2 w' hx hG=>hG.ext (by kernel_rfl) (of_decide_eq_true (by kernel_rfl)) (of_decide_eq_true (by kernel_rfl)) (of_decide_eq_true (by kernel_rfl)) hx
        case h0=>rw[←HWD.out];exact lF.start
        case hstep=>
         refine⟨?_,?_,?_,?_,?_,?_,?_,?_,?_,?_,?_,trivial⟩
         ·intro l' w' hl hdp hG
          rw[if_pos (by kernel_rfl)]
          intro K' Qp hK
          have HG:=hid (hG.other (i:=0) rfl hdp (by decide) (by decide) (by decide))
          clear hG hl hdp
          go_simp
          exact hK _ HG.out
         ·intro l' w' hl hdp hG
          rw[if_pos (by kernel_rfl)]
          intro K' Qp hK
          have hn8:l' 8=false:=by
           cases h8:l' 8 with
           | false=>rfl
           | true=>rw[hG.clo 8 _ 1 rfl h8 rfl]at hl;cases hl
          have HG:=hid (hG.other (i:=1) rfl hdp (by decide) (by decide) (by decide))
          have hw:w'=Wd∨w'=Wt:=by
           cases h7:l' 7 with
           | false=>exact .inl (hG.s0 h7)
           | true=>exact .inr (hG.s1 h7 hn8)
          clear hG hl hdp hn8
          rcases hw with rfl | rfl
          ·go_simp
           exact hK _ HG.out
          ·go_simp
           exact hK _ HG.out
         ·intro l' w' hl hdp hG
          rw[if_pos (by kernel_rfl)]
          intro K' Qp hK
          have HG:=hid (hG.other (i:=2) rfl hdp (by decide) (by decide) (by decide))
          clear hG hl hdp
          go_simp
          exact hK _ HG.out
         ·intro l' w' hl hdp hG
          rw[if_pos (by kernel_rfl)]
          intro K' Qp hK
          have Rl:l' 7=false:=by
           cases h7:l' 7 with
           | false=>rfl
           | true=>rw[hG.clo 5 _ 3 rfl (hG.clo 6 _ 5 rfl (hG.clo 7 _ 6 rfl h7 rfl) rfl) rfl]at hl;cases hl
          have HG:=hid (hG.other (i:=3) rfl hdp (by decide) (by decide) (by decide))
          obtain rfl:=hG.s0 Rl
          clear hG hl hdp Rl
          go_simp
          exact hK _ HG.out
         ·intro l' w' hl hdp hG
          rw[if_pos (by kernel_rfl)]
          intro K' Qp hK
          have HG:=hid (hG.other (i:=4) rfl hdp (by decide) (by decide) (by decide))
          clear hG hl hdp
          go_simp
          exact hK _ HG.out
         ·intro l' w' hl hdp hG
          rw[if_pos (by kernel_rfl)]
          intro K' Qp hK
          have Rl:l' 7=false:=by
           cases h7:l' 7 with
           | false=>rfl
           | true=>rw[hG.clo 6 _ 5 rfl (hG.clo 7 _ 6 rfl h7 rfl) rfl]at hl;cases hl
          have HG:=hid (hG.other (i:=5) rfl hdp (by decide) (by decide) (by decide))
          obtain rfl:=hG.s0 Rl
          clear hG hl hdp Rl
          go_simp
          exact hK _ HG.out
         ·intro l' w' hl hdp hG
          rw[if_pos (by kernel_rfl)]
          intro K' Qp hK
          have Rl:l' 7=false:=by
           cases h7:l' 7 with
           | false=>rfl
           | true=>rw[hG.clo 7 _ 6 rfl h7 rfl]at hl;cases hl
          have HG:=hid (hG.other (i:=6) rfl hdp (by decide) (by decide) (by decide))
          obtain rfl:=hG.s0 Rl
          clear hG hl hdp Rl
          go_simp
          exact hK _ HG.out
         ·intro l' w' hl hdp hG
          rw[if_pos (by kernel_rfl)]
          intro K' Qp hK
          obtain⟨rfl,hG'⟩:=hG.first rfl hdp hl (fun h8=>hG.clo 8 _ 7 rfl h8 rfl) (fun h10=>hG.clo 10 _ 8 rfl h10 rfl) (by decide) (by decide)
          have HG:=hid hG'
          clear hG hl hdp hG'
          go_simp
          rw[←Wq.out]
          exact hK _ HG.out
         ·intro l' w' hl hdp hG
          rw[if_pos (by kernel_rfl)]
          intro K' Qp hK
          obtain⟨rfl,hG'⟩:=hG.second rfl hdp hl (hdp 7 rfl) (fun h10=>hG.clo 10 _ 8 rfl h10 rfl) (by decide) (by decide)
          have HG:=hid hG'
          clear hG hl hdp hG'
          refine aO.wp (bW (s:=.tmp 83) (x:=.tmp 89) (t:=22) rfl (vs:=.slice ca (mO l K k).length cc) (vx:=.slice (some ⟨Wd.heap.size,0,none⟩) 1 1) rfl rfl Ik.out (hK _ HG.out))
         ·intro l' w' hl hdp hG
          rw[if_pos (by kernel_rfl)]
          intro K' Qp hK
          have HG:=hid (hG.other (i:=9) rfl hdp (by decide) (by decide) (by decide))
          clear hG hl hdp
          go_simp
          exact hK _ HG.out
         ·intro l' w' hl hdp hG
          rw[if_pos (by kernel_rfl)]
          intro K' Qp hK
          obtain⟨rfl,hG'⟩:=hG.third rfl hdp hl (hdp 8 rfl) (hG.clo 8 _ 7 rfl (hdp 8 rfl) rfl) (by decide) (by decide)
          have HG:=hid hG'
          clear hG hl hdp hG'
          go_simp
          exact hK _ HG.out
        case hdone=>
         intro w' hG
         obtain rfl:=hG.done
         clear hG
         go_wp2_with fail
         go_roundw
         case rel=>exact⟨m+1,_,Lc.out,by go_num,hid (.inr ⟨ZQ.out,UH.out⟩)⟩
         case measure=>simp[intOf];have:=Lc.out;omega
       ·have g1:((K[m]:Int)==mD l k)=false:=beq_eq_false_iff_ne.2 hq
        have Jg:=hid (fun W1 (hb:Below wr.heap.size wr W1)=>HI.out.no hlm hq hb)
        generalize (K[m]:Int)=km at*
        generalize mD l k=ok at*
        clear hkc hoc hlm hm hq HI
        go_wp2_with fail
        go_quiet (fail)
        go_wp2_with fail
        go_roundw
        case rel=>exact⟨m+1,_,Lc.out,by go_num,hid (Jg.out _ (ai (af _) _))⟩
        case measure=>simp[intOf];have:=Lc.out;omega
      ·obtain rfl:m=K.length:=by omega
       have hm1:decide ((K.length:Int) < (K.length:Int))=false:=decide_eq_false (by omega)
       have hk4:=dX.out
       clear hm hlm
       go_wp2_with fail
       go_roundw
       case rel=>exact⟨k+1,_,bf.out,by go_num,hid (HI.out.done bf.out)⟩
       case measure=>simp[intOf];have:=bf.out;omega
    ·obtain rfl:k=l.length:=by omega
     have hk1:decide ((l.length:Int) < (l.length:Int))=false:=decide_eq_false (by omega)
     obtain⟨ca,cc,rfl⟩:=oH HI.out.own
     have u0:=HI.out.u.cell 0 (v:=.int .i64 T) rfl
     have u1:=HI.out.u.cell 1 (v:=.int .i64 V) rfl
     have u2:=HI.out.u.cell 2 (v:=.int .i64 S) rfl
     have u3:=HI.out.u.cell 3 (v:=.slice ca (mO l K l.length).length cc) rfl
     have hz:=EO.out.below HI.out.low
     have Oq:=hid hz
     have f0:=hz.free 0
     have f1:=hz.free 1
     have f2:=hz.free 2
     have f3:=hz.free 3
     have c0:=hz.cell 0 (v:=.int .i64 0) rfl
     have c1:=hz.cell 1 (v:=.int .i64 0) rfl
     have c2:=hz.cell 2 (v:=.int .i64 0) rfl
     have c3:=hz.cell 3 (v:=.slice none 0 0) rfl
     have hBw:Below w.heap.size w wr:=HB4.out.trans (HI.out.low.mono HB4.out.size)
     have jM:=hid hBw
     clear hz hBw hlt hk
     go_wp2_with fail
     have hF:=Ac Oq.out (.int .i64 T) (.int .i64 V) (.int .i64 S) (.slice ca (mO l K l.length).length cc)
     have Eh:=sK jM.out (Nat.le_succ _) (.int .i64 T) (.int .i64 V) (.int .i64 S) (.slice ca (mO l K l.length).length cc)
     have hne:∀ g,(Value.slice ca (mO l K l.length).length cc).ownBlock=some g→g≠w.heap.size+1:=fun g hg=>by have:=(HI.out.own.lt g hg).1;have:=Ui.out;omega
     have hownF:=kF (kF (kF (kF HI.out.own hne (o:=0) (x:=.int .i64 T)) hne (o:=1) (x:=.int .i64 V)) hne (o:=2) (x:=.int .i64 S)) hne (o:=3) (x:=.slice ca (mO l K l.length).length cc)
     obtain⟨Wf,hWf⟩:∃ Wf,Wf=(((wr.setCell ⟨w.heap.size+1,0,none⟩ (.int .i64 T)).setCell ⟨w.heap.size+1,1,none⟩ (.int .i64 V)).setCell ⟨w.heap.size+1,2,none⟩ (.int .i64 S)).setCell ⟨w.heap.size+1,3,none⟩ (.slice ca (mO l K l.length).length cc):=⟨_,rfl⟩
     rw[←hWf]at hF Eh hownF⊢
     have q0:=hF.cell 0 (v:=.int .i64 T) rfl
     have q1:=hF.cell 1 (v:=.int .i64 V) rfl
     have q2:=hF.cell 2 (v:=.int .i64 S) rfl
     have q3:=hF.cell 3 (v:=.slice ca (mO l K l.length).length cc) rfl
     exact bodyPost_ret (v:=.tuple #[.agg #[.int .i64 T,.int .i64 V,.int .i64 S,.slice ca (mO l K l.length).length cc],.int .i64 0]) (by simp[results,Tryd.results17,go_sem,q0,q1,q2,q3]) rfl (Us.out _ _ ⟨_,rfl,Xk.out,Eh,uM hownF (by have:=Ui.out;omega)⟩)
theorem TL (T V S:Int) (a:Option Addr) (l:List Ev) (cap:Nat) (vars:List Int) (vv:Value) (w:World) (hl:l.length≤600) (hvl:vars.length≤50) (hV:Ff w vars vv) (hE:cO w a l) (hK:bn w) (hT:gJ w):
  Calls Tryd.prog 16 #[oZ T V S a l.length cap,vv] w (Bv T V S l vars w):=by
 by_cases hc:(aW T V S l).2=0
 ·exact TK T V S a l cap vars vv w hc hl hvl hV hE hK hT
 ·exact Wh T V S a l cap vars vv w hc hV hE hK hT
theorem N9 {T V S:Int} {l:List Ev} {vars:List Int} (h:∀ e∈l,jr e):∀ e∈oP T V S l vars,jr e:=by
 unfold oP
 split
 ·exact TM h
 ·intro e he;cases he
theorem KL {T V S:Int} {l:List Ev} {vars:List Int}:(oP T V S l vars).length≤l.length:=by
 unfold oP
 split
 ·exact xP _ _ _
 ·exact Nat.zero_le _
theorem Qr {T V S c:Int} {T1 V1 S1 T2 V2 S2:Int} (h1:c=0→T1=T∧V1=V∧S1=S) (h1':c≠0→T1=0∧V1=0∧S1=0) (h2:c=0→T2=T∧V2=V∧S2=S) (h2':c≠0→T2=0∧V2=0∧S2=0):T2=T1∧V2=V1∧S2=S1:=by
 by_cases hc:c=0
 ·obtain⟨rfl,rfl,rfl⟩:=h1 hc;exact h2 hc
 ·obtain⟨rfl,rfl,rfl⟩:=h1' hc;exact h2' hc
set_option maxRecDepth 100000 in
set_option maxHeartbeats 8000000 in
theorem yh (L:List aH) (T V S:Int) (a:Option Addr) (l:List Ev) (cap:Nat) (vars:List Int) (w:World) (vl vv:Value) (hL:jq w L vl) (hb:∀ x∈L,x.reads.length≤8796093022208∧x.writes.length≤8796093022208) (hV:Ff w vars vv) (hcap:l.length≤cap) (hE:cO w a l) (hK:bn w) (hT:gJ w) (hN:kL w):
  Calls Tryd.prog 5 #[vl,oZ T V S a l.length cap,vv] w fun e w'=>e=.returned (.bool true)∧Below w.heap.size w w':=by
 have HLG:=hid (fun w v h=>J5 L w v h hb)
 have UM:=hid (fun(h1:l.length≤140) (h2:vars.length≤50) W (hW:Below w.heap.size w W)=>TL T V S a l cap vars vv W (by omega) h2 (hV.below hW) (hE.below hW) (hK.below hW) (hT.below hW))
 have uC:=hid (fun(h1:l.length≤140) (h2:vars.length≤50) W (hW:Below w.heap.size w W)=>PG T V S a l cap vars vv W (by omega) h2 hcap (hV.below hW) (hE.below hW) (hN.below hW))
 have OB:=hid (fun(h1:L.length≤60) (h2:tV L L.length < 1500) (h3:vars.length≤50) W (hW:Below w.heap.size w W)=>Ea L vars W vl vv (hL.below hW) (hV.below hW) (TQ h1 h2 (by omega)) (by omega))
 have U6:=hid (fun(h1:L.length≤60) (h3:vars.length≤50) W (hW:Below w.heap.size w W)=>Aw L vars W vl vv (hL.below hW) (hV.below hW) (by omega) (by omega))
 have La:=hid (N9 (T:=T) (V:=V) (S:=S) (vars:=vars) hE.1)
 have HL:=hid hL
 obtain⟨al,cl,hvl⟩:∃ al cl,vl=.slice al L.length cl:=by obtain⟨al,cl,h,_⟩:=hL;exact⟨al,cl,h⟩
 obtain⟨av,cv,hvv⟩:=hV.shape
 clear hL hV hE hK hT hN hb hcap
 subst hvl hvv
 dsimp only[oZ]at UM uC⊢
 have HX:=hid (aA.new w #[.int .i64 T,.int .i64 V,.int .i64 S,.slice a l.length cap] 24)
 have HB:Hid (Below w.heap.size w (w.alloc (.cells #[.int .i64 T,.int .i64 V,.int .i64 S,.slice a l.length cap] 24))):=hid (ah (af _) _)
 go_enter Tryd.func5,Tryd.ntmps5
 go_wp2_with fail
 refine(HLG.out _ _ (HL.out.below HB.out)).mono ?_
 rintro e' w2 ⟨q,rfl,hq,hb2⟩
 have HB2:=hid (ag HB.out hb2)
 have KY:=hid (HX.out.below hb2)
 have HQ:=hid hq
 clear hq hb2
 cases q
 case' true=>
  go_wp2_with fail
  go_ret
  exact⟨rfl,HB2.out⟩
 have d3:=KY.out.cell 3 (v:=.slice a l.length cap) rfl
 by_cases h1:l.length≤140
 case' neg=>
  have g1:decide ((140:Int) < (l.length:Int))=true:=by rw[decide_eq_true_iff];omega
  clear h1
  go_wp2_with fail
  go_ret
  exact⟨rfl,HB2.out⟩
 have g1:decide ((140:Int) < (l.length:Int))=false:=by rw[decide_eq_false_iff_not];omega
 by_cases h2:vars.length≤50
 case' neg=>
  have g2:decide ((50:Int) < (vars.length:Int))=true:=by rw[decide_eq_true_iff];omega
  clear h1 h2
  go_wp2_with fail
  go_ret
  exact⟨rfl,HB2.out⟩
 have g2:decide ((50:Int) < (vars.length:Int))=false:=by rw[decide_eq_false_iff_not];omega
 obtain⟨Tz,hs⟩:=HQ.out rfl
 replace UM:=hid (UM.out h1 h2)
 replace uC:=hid (uC.out h1 h2)
 replace OB:=hid (OB.out Tz hs h2)
 replace U6:=hid (U6.out Tz h2)
 rw[wS]at U6
 have uA:Hid ((kQ L vars).length≤1000000000):=hid (Nat.le_trans kept_len (by omega))
 have HEL:Hid ((oP T V S l vars).length≤1000000000):=hid (Nat.le_trans KL (by omega))
 have d0:=KY.out.cell 0 (v:=.int .i64 T) rfl
 have d1:=KY.out.cell 1 (v:=.int .i64 V) rfl
 have d2:=KY.out.cell 2 (v:=.int .i64 S) rfl
 clear h1 h2 Tz hs HQ HLG HX HB
 unfold Bv at UM uC
 obtain⟨c,hc⟩:∃ c,c=jV T V S l vars:=⟨_,rfl⟩
 obtain⟨R,hR⟩:∃ R,R=oP T V S l vars:=⟨_,rfl⟩
 rw[←hc,←hR]at UM uC
 rw[←hR]at La HEL
 clear hc hR
 have g3:(c==c)=true:=beq_self_eq_true c
 generalize kQ L vars=K at*
 go_wp2_with fail
 refine(UM.out _ HB2.out).mono ?_
 rintro e' w3 ⟨T1,V1,S1,v1,rfl,hb3,ho1,z1,z1'⟩
 obtain⟨a1,c1,rfl,hE1⟩:=zn ho1 La.out
 have OG:=hid hE1
 have HZ1:=hid z1
 have Wj:=hid z1'
 have HB3:=hid (ag HB2.out hb3)
 obtain⟨W3,hW3⟩:∃ W3,W3=w3.alloc (.cells #[.int .i64 T1,.int .i64 V1,.int .i64 S1,.slice a1 R.length c1] 24):=⟨_,rfl⟩
 have hbn:Below w3.heap.size w3 W3:=by rw[hW3];exact ah (af _) _
 have Dq:=hid ((KY.out.below hb3).below hbn)
 have UT:=hid (ag HB3.out hbn)
 have RH:Hid (aA W3 w3.heap.size #[.int .i64 T1,.int .i64 V1,.int .i64 S1,.slice a1 R.length c1] 24):=hid (by rw[hW3];exact aA.new _ _ _)
 have WY:=hid (hE1.below hbn)
 have d0:=Dq.out.cell 0 (v:=.int .i64 T) rfl
 have d1:=Dq.out.cell 1 (v:=.int .i64 V) rfl
 have d2:=Dq.out.cell 2 (v:=.int .i64 S) rfl
 have d3:=Dq.out.cell 3 (v:=.slice a l.length cap) rfl
 have HW3:=hid hW3
 rw[hW3]at d0 d1 d2 d3
 clear hb3 ho1 hE1 z1 z1' UM HB2 KY OG hbn HB3 hW3
 go_wp2_with fail
 rw[←HW3.out]
 clear d0 d1 d2 d3
 refine(uC.out _ UT.out).mono ?_
 rintro e' w4 ⟨T2,V2,S2,v2,rfl,hb4,ho2,z2,z2'⟩
 obtain⟨a2,c2,rfl,hE2⟩:=zn ho2 La.out
 obtain⟨rfl,rfl,rfl⟩:=Qr HZ1.out Wj.out z2 z2'
 obtain⟨W4,pF⟩:∃ W4,W4=w4.alloc (.cells #[.int .i64 T2,.int .i64 V2,.int .i64 S2,.slice a2 R.length c2] 24):=⟨_,rfl⟩
 have hbn:Below w4.heap.size w4 W4:=by rw[pF];exact ah (af _) _
 have HB4:=hid (ag (ag UT.out hb4) hbn)
 have ZO:=hid ((RH.out.below hb4).below hbn)
 have lV:=hid ((WY.out.below hb4).below hbn)
 have ZM:Hid (aA W4 w4.heap.size #[.int .i64 T2,.int .i64 V2,.int .i64 S2,.slice a2 R.length c2] 24):=hid (by rw[pF];exact aA.new _ _ _)
 have HF4:=hid (hE2.below hbn)
 have Ui:=hid pF
 clear hb4 ho2 hE2 z2 z2' uC UT RH WY Dq HZ1 Wj hbn pF
 go_wp2_with fail
 rw[←Ui.out]
 refine(OB.out _ HB4.out).mono ?_
 rintro e' w5 ⟨v5,rfl,Yr,hb5⟩
 have qN:=hid (ag HB4.out hb5)
 have HO5:=hid (iQ Yr)
 obtain⟨a5,c5,rfl⟩:=(iQ Yr).shape
 have RD:=hid hb5
 clear Yr hb5
 go_wp2_with fail
 refine(U6.out _ qN.out).mono ?_
 rintro e' w6 ⟨v6,rfl,hb6,Qc⟩
 have UR:=hid (ag qN.out hb6)
 have HO6:=hid (HO5.out.below hb6)
 have XJ:=hid (ag RD.out hb6)
 have U7:=hid Qc
 obtain⟨a6,c6,rfl⟩:=Qc.shape
 clear hb6 Qc HO5 RD
 go_wp2_with fail
 refine(DZ K K w6 _ _ HO6.out U7.out uA.out uA.out).mono ?_
 rintro e' w7 ⟨rfl,hb7⟩
 have Ji:=hid (ag UR.out hb7)
 have Ko:=ag XJ.out hb7
 have XQ:=hid (lV.out.below Ko)
 have HF7:=hid (HF4.out.below Ko)
 have hm:=ZO.out.below Ko
 have hn:=ZM.out.below Ko
 have m0:=hm.cell 0 (v:=.int .i64 T2) rfl
 have m1:=hm.cell 1 (v:=.int .i64 V2) rfl
 have m2:=hm.cell 2 (v:=.int .i64 S2) rfl
 have m3:=hm.cell 3 (v:=.slice a1 R.length c1) rfl
 have n0:=hn.cell 0 (v:=.int .i64 T2) rfl
 have n1:=hn.cell 1 (v:=.int .i64 V2) rfl
 have n2:=hn.cell 2 (v:=.int .i64 S2) rfl
 have n3:=hn.cell 3 (v:=.slice a2 R.length c2) rfl
 have g4:decide (K=K)=true:=decide_eq_true rfl
 rw[g4]
 clear hb7 Ko hm hn HO6 U7 XJ
 go_wp2_with fail
 refine(Pn T2 V2 S2 a1 a2 R c1 c2 w7 XQ.out HF7.out HEL.out).mono ?_
 rintro e' w8 ⟨rfl,hb8⟩
 have Xh:=hid (ag Ji.out hb8)
 clear hb8 m0 m1 m2 m3 n0 n1 n2 n3
 go_wp2_with fail
 go_ret
 exact⟨rfl,Xh.out⟩
end Go.Proofs.YtcddlnmcjmhbcaaDoor
-- short
