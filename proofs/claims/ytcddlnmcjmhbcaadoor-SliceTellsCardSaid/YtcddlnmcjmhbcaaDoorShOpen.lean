/-
  What comes in: an argument of type api.Trace, or []api.Event, or api.Event, that reads as data reads by our own predicates.
-/
import Derived.Test.YtcddlnmcjmhbcaaDoorShV
import Derived.ProofKit
import Derived.OpenShut
namespace Go.Proofs.YtcddlnmcjmhbcaaDoor
set_option linter.unusedVariables false
set_option linter.unusedSimpArgs false
open Go Go.RowKit Go.ChangeShapes Go.WideShapes Go.ChangeAt
theorem I8:Tryd.prog.cellsOf 49=7:=by kernel_rfl
theorem Qq:Tryd.prog.cellsOf 24=4:=by kernel_rfl
theorem cellsByte:Tryd.prog.cellsOf 5=1:=by kernel_rfl
theorem Ey:Tryd.prog.cellsOf 3=1:=by kernel_rfl
theorem KI:Tryd.prog.cellsOf 2=1:=by kernel_rfl
theorem N7:Tryd.prog.cellsOf 22=1:=by kernel_rfl
theorem MQ {n:Int} (h:(Lit.int .u8 n).wf=true):0≤n∧n≤255:=by simpa[Lit.wf,IntKind.min,IntKind.max,IntKind.signed,IntKind.bits]using h
theorem oJ {n:Int} (h:(Lit.int .i64 n).wf=true):-9223372036854775808≤n∧n≤9223372036854775807:=by simpa[Lit.wf,IntKind.min,IntKind.max,IntKind.signed,IntKind.bits]using h
section
variable {H:Type} {enc:TypeId×Value→H} {w:World} {sp:Nat→Bool} {held:Bool}
set_option maxRecDepth 100000 in
theorem G9 {fuel:Nat} {cs:List Value} {x:DataW H×List MemPlace} (h:DataW.trod enc Tryd.prog w 0 sp held fuel 49 cs=some x):∃ e,cs=qM e∧jr e:=by
 obtain⟨xs,n,rfl,-,hlen,hxs,hel⟩:=DataW.trod_struct Tryd.underlying49 h
 rw[I8]at hlen
 match cs,hlen with
 | [c0,c1,c2,c3,c4,c5,c6],_=>
 match xs,hxs with
 | [x0,x1,x2,x3,x4,x5,x6],_=>
 have h0:DataW.trod enc Tryd.prog w 0 sp held n 5 (([c0,c1,c2,c3,c4,c5,c6].drop 0).take (Tryd.prog.cellsOf 5))=some x0:=hel 0 _ rfl
 have h1:DataW.trod enc Tryd.prog w 0 sp held n 3 (([c0,c1,c2,c3,c4,c5,c6].drop 1).take (Tryd.prog.cellsOf 3))=some x1:=hel 1 _ rfl
 have h2:DataW.trod enc Tryd.prog w 0 sp held n 3 (([c0,c1,c2,c3,c4,c5,c6].drop 2).take (Tryd.prog.cellsOf 3))=some x2:=hel 2 _ rfl
 have h3:DataW.trod enc Tryd.prog w 0 sp held n 3 (([c0,c1,c2,c3,c4,c5,c6].drop 3).take (Tryd.prog.cellsOf 3))=some x3:=hel 3 _ rfl
 have h4:DataW.trod enc Tryd.prog w 0 sp held n 3 (([c0,c1,c2,c3,c4,c5,c6].drop 4).take (Tryd.prog.cellsOf 3))=some x4:=hel 4 _ rfl
 have h5:DataW.trod enc Tryd.prog w 0 sp held n 2 (([c0,c1,c2,c3,c4,c5,c6].drop 5).take (Tryd.prog.cellsOf 2))=some x5:=hel 5 _ rfl
 have h6:DataW.trod enc Tryd.prog w 0 sp held n 5 (([c0,c1,c2,c3,c4,c5,c6].drop 6).take (Tryd.prog.cellsOf 5))=some x6:=hel 6 _ rfl
 rw[cellsByte]at h0 h6
 rw[Ey]at h1 h2 h3 h4
 rw[KI]at h5
 simp only[List.drop_zero,List.drop_succ_cons,List.take_succ_cons,List.take_zero]at h0 h1 h2 h3 h4 h5 h6
 obtain⟨k,e0,-,w0⟩:=DataW.trod_int Tryd.underlying5 h0
 obtain⟨th,e1,-,w1⟩:=DataW.trod_int Tryd.underlying3 h1
 obtain⟨tx,e2,-,w2⟩:=DataW.trod_int Tryd.underlying3 h2
 obtain⟨a,e3,-,w3⟩:=DataW.trod_int Tryd.underlying3 h3
 obtain⟨v,e4,-,w4⟩:=DataW.trod_int Tryd.underlying3 h4
 obtain⟨x',e5,-,w5⟩:=DataW.trod_int Tryd.underlying2 h5
 obtain⟨y,e6,-,w6⟩:=DataW.trod_int Tryd.underlying5 h6
 simp only[List.cons.injEq,and_true]at e0 e1 e2 e3 e4 e5 e6
 subst e0;subst e1;subst e2;subst e3;subst e4;subst e5;subst e6
 exact⟨⟨k,th,tx,a,v,x',y⟩,rfl,MQ w0,oJ w1,oJ w2,oJ w3,oJ w4,oJ w5,MQ w6⟩
theorem xg {base:Nat} {a:Addr} {n:Nat} {cs:List Value} (h:w.cells? base a n=some cs) (hn:0 < n):cs.length=n∧a=⟨a.block,a.off,none⟩∧∀ i (hc:i < cs.length),w.cell? ⟨a.block,a.off+i,none⟩=some cs[i]:=by
 obtain⟨_,h1,h2⟩:=World.cells?_some h
 have hs:a=⟨a.block,a.off,none⟩:=by
  have h3:=World.cell?_spot (by have:=h2 0 hn;rw[List.getElem?_eq_getElem (by omega)]at this;exact this)
  obtain⟨b,o,s⟩:=a
  simp[Addr.add]at h3⊢;exact h3
 refine⟨h1,hs,fun i hc=>?_⟩
 have h3:=h2 i (by omega)
 rw[List.getElem?_eq_getElem hc]at h3
 have h4:=World.cell?_spot h3
 have:a.add i=⟨a.block,a.off+i,none⟩:=by
  rw[hs]
  unfold Addr.add
  split
  ·rename_i h0;simp[h0]
  ·rfl
 rw[←this];exact h3
set_option maxRecDepth 100000 in
theorem Em {fuel:Nat} {v:Value} {x:DataW H×List MemPlace} (h:DataW.trod enc Tryd.prog w 0 sp held fuel 22 [v]=some x):∃ a l cap,v=.slice a (List.length l) cap∧l.length≤cap∧l.length≤9223372036854775807∧cO w a l:=by
 rcases DataW.trod_slice Tryd.underlying22 h with⟨hc,-⟩ | ⟨ad,len,cap,elems,rest,n,rfl,hc,-,hb,hl,hm,hlen,hel,hsp,hns⟩
 ·simp only[List.cons.injEq,and_true]at hc
  exact⟨none,[],0,by rw[hc];rfl,by simp,by simp,fun e he=>(by cases he),fun h=>absurd rfl h⟩
 ·simp only[List.cons.injEq,and_true]at hc
  rw[I8]at hel
  have hch:∀ i:Fin len,∃ e,jr e∧w.cells? 0 (ad.add (i.1*7)) 7=some (qM e):=by
   intro i
   have h1:=hel i.1 i.2
   rw[List.getElem?_eq_getElem (by omega)]at h1
   obtain⟨cs',h2,h3⟩:=Option.bind_eq_some_iff.1 h1
   obtain⟨e,rfl,he⟩:=G9 h3
   exact⟨e,he,h2⟩
  refine⟨some ad,List.ofFn fun i=>Classical.choose (hch i),cap,by rw[hc];simp,by simpa using hl,by unfold maxLen at hm;simp;omega,?_,fun hne=>?_⟩
  ·intro e he
   obtain⟨i,rfl⟩:=List.mem_ofFn.1 he
   exact(Classical.choose_spec (hch i)).1
  ·have hpos:0 < len:=by
    rcases Nat.eq_zero_or_pos len with h | h
    ·subst h;simp at hne
    ·exact h
   have had:ad=⟨ad.block,ad.off,none⟩:=by
    obtain⟨-,hc0⟩:=Classical.choose_spec (hch ⟨0,hpos⟩)
    obtain⟨-,hs,-⟩:=xg hc0 (by omega)
    have e:ad.add (0*7)=ad:=by simp[Addr.add]
    simp only[e]at hs
    exact hs
   refine⟨ad.block,ad.off,congrArg some had,fun k hk j v hv=>?_⟩
   simp only[List.length_ofFn]at hk
   obtain⟨-,hc0⟩:=Classical.choose_spec (hch ⟨k,hk⟩)
   obtain⟨hl7,hs,hall⟩:=xg hc0 (by omega)
   have VW:(ad.add (k*7)).block=ad.block∧(ad.add (k*7)).off=ad.off+k*7:=by
    unfold Addr.add;split
    ·rename_i h;simp[h]
    ·exact⟨rfl,rfl⟩
   simp only[List.getElem_ofFn]at hv
   obtain⟨hj,rfl⟩:=List.getElem?_eq_some_iff.1 hv
   have:=hall j hj
   rw[VW.1,VW.2]at this
   exact this
set_option maxRecDepth 100000 in
theorem FQ {fuel:Nat} {cs:List Value} {x:DataW H×List MemPlace} (h:DataW.trod enc Tryd.prog w 0 sp held fuel 24 cs=some x):
  ∃ T V S a l cap,cs=[.int .i64 T,.int .i64 V,.int .i64 S,.slice a (List.length l) cap]∧((-9223372036854775808≤T∧T≤9223372036854775807)∧(-9223372036854775808≤V∧V≤9223372036854775807)∧(-9223372036854775808≤S∧S≤9223372036854775807))∧l.length≤cap∧l.length≤9223372036854775807∧cO w a l:=by
 obtain⟨xs,n,rfl,-,hlen,hxs,hel⟩:=DataW.trod_struct Tryd.underlying24 h
 rw[Qq]at hlen
 match cs,hlen with
 | [c0,c1,c2,c3],_=>
 match xs,hxs with
 | [x0,x1,x2,x3],_=>
 have h0:DataW.trod enc Tryd.prog w 0 sp held n 3 (([c0,c1,c2,c3].drop 0).take (Tryd.prog.cellsOf 3))=some x0:=hel 0 _ rfl
 have h1:DataW.trod enc Tryd.prog w 0 sp held n 3 (([c0,c1,c2,c3].drop 1).take (Tryd.prog.cellsOf 3))=some x1:=hel 1 _ rfl
 have h2:DataW.trod enc Tryd.prog w 0 sp held n 3 (([c0,c1,c2,c3].drop 2).take (Tryd.prog.cellsOf 3))=some x2:=hel 2 _ rfl
 have h3:DataW.trod enc Tryd.prog w 0 sp held n 22 (([c0,c1,c2,c3].drop 3).take (Tryd.prog.cellsOf 22))=some x3:=hel 3 _ rfl
 rw[Ey]at h0 h1 h2
 rw[N7]at h3
 simp only[List.drop_zero,List.drop_succ_cons,List.take_succ_cons,List.take_zero]at h0 h1 h2 h3
 obtain⟨T,e0,-,w0⟩:=DataW.trod_int Tryd.underlying3 h0
 obtain⟨V,e1,-,w1⟩:=DataW.trod_int Tryd.underlying3 h1
 obtain⟨S,e2,-,w2⟩:=DataW.trod_int Tryd.underlying3 h2
 obtain⟨a,l,cap,e3,h4,h5,h6⟩:=Em h3
 simp only[List.cons.injEq,and_true]at e0 e1 e2
 subst e0;subst e1;subst e2;subst e3
 exact⟨T,V,S,a,l,cap,rfl,⟨oJ w0,oJ w1,oJ w2⟩,h4,h5,h6⟩
set_option maxRecDepth 100000 in
theorem PT {r:Reach} {b0:Nat} {v:Value} {d:DataW H} {p:List MemPlace}
  (hv:Value.okWide Tryd.prog w r b0 24 v) (h:DataW.Trod enc Tryd.prog w 0 sp held 24 v d p):
  ∃ T V S a l cap,v=oZ T V S a (List.length l) cap∧((-9223372036854775808≤T∧T≤9223372036854775807)∧(-9223372036854775808≤V∧V≤9223372036854775807)∧(-9223372036854775808≤S∧S≤9223372036854775807))∧l.length≤cap∧l.length≤9223372036854775807∧cO w a l:=by
 obtain⟨cs,rfl,hsz⟩:=okWide_struct Tryd.underlying24 hv
 obtain⟨fuel,hf⟩:=h
 obtain⟨T,V,S,a,l,cap,h1,h2,h3,h4,h5⟩:=FQ hf
 have h3':cs.toList=[.int .i64 T,.int .i64 V,.int .i64 S,.slice a l.length cap]:=h1
 exact⟨T,V,S,a,l,cap,by rw[←Array.toArray_toList (xs:=cs),h3'];rfl,h2,h3,h4,h5⟩
end
end Go.Proofs.YtcddlnmcjmhbcaaDoor
-- short
