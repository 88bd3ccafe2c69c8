/-
  A region that draws its order, by what each operation leaves: each operation is met once, in whatever world those ahead of it have left. Said of any program. Nothing of the program.
-/
import Derived.Orders
import Derived.WalkKit
namespace Go.Proofs.YtcddlnmcjmhbcaaDoor
set_option linter.unusedVariables false
open Go
section
variable {P:Program} {ops:Array Oper} {Q:Exit→Act→World→Prop}
def aB (ops:Array Oper) (i:Nat):Option Tmp:=(ops[i]?).bind (·.dst)
def bM (ops:Array Oper):Bool:=(List.range ops.size).all fun i=>(List.range ops.size).all fun j=>i==j||aB ops i==none||aB ops i !=aB ops j
theorem rW (h:bM ops=true) {i j:Nat} {d:Tmp} (hi:i < ops.size) (hne:i≠j) (hd:aB ops i=some d):aB ops j≠some d:=by
 intro hj
 have hjs:j < ops.size:=by
  rcases Nat.lt_or_ge j ops.size with h | h
  ·exact h
  ·unfold aB at hj;rw[Array.getElem?_eq_none h]at hj;simp at hj
 unfold bM at h
 have h1:=List.all_eq_true.1 (List.all_eq_true.1 h i (List.mem_range.2 hi)) j (List.mem_range.2 hjs)
 rw[hd,hj]at h1
 simp[hne]at h1
def ay (ops:Array Oper) (vals:Nat→Value) (listed:Nat→Bool) (a:Act):Nat→Act
 | 0=>a
 | n+1=>if listed n then(ay ops vals listed a n).put (aB ops n) (vals n)else ay ops vals listed a n
theorem dP {vals vals':Nat→Value} {listed listed':Nat→Bool} {a:Act}:∀ (n:Nat),(∀ i,i < n→listed i=listed' i∧(listed i=true→vals i=vals' i))→ay ops vals listed a n=ay ops vals' listed' a n
 | 0,_=>rfl
 | n+1,h=>by
  have ih:=dP (a:=a) n (fun i hi=>h i (by omega))
  have h1:=h n (by omega)
  simp only[ay,ih,←h1.1]
  split
  ·rename_i hl;rw[h1.2 hl]
  ·rfl
theorem dm {vals:Nat→Value} {listed:Nat→Bool} {a:Act}:∀ (n:Nat),(ay ops vals listed a n).tmps.size=a.tmps.size
 | 0=>rfl
 | n+1=>by
  simp only[ay]
  split
  ·unfold Act.put;split <;> simp[dm n]
  ·exact dm n
theorem eval_put_same {a:Act} {d:Tmp} {v:Value} (h:d < a.tmps.size):(a.put (some d) v).eval (.tmp d)=v:=by
 simp[Act.put,Act.eval,Array.getD,h]
theorem nY {a:Act} {x:Option Tmp} {d:Tmp} {v:Value} (h:x≠some d):(a.put x v).eval (.tmp d)=a.eval (.tmp d):=by
 cases x with
 | none=>rfl
 | some x=>
  have:x≠d:=fun e=>h (by rw[e])
  simp only[Act.put,Act.eval,Array.getD_eq_getD_getElem?,Array.getElem?_setIfInBounds,if_neg this]
theorem eF {vals:Nat→Value} {listed:Nat→Bool} {a:Act} {d:Tmp}:∀ (n:Nat),(∀ j,j < n→aB ops j≠some d)→(ay ops vals listed a n).eval (.tmp d)=a.eval (.tmp d)
 | 0,_=>rfl
 | n+1,h=>by
  simp only[ay]
  split
  ·rw[nY (h n (by omega))];exact eF n (fun j hj=>h j (by omega))
  ·exact eF n (fun j hj=>h j (by omega))
theorem dn (hd:bM ops=true) {vals:Nat→Value} {listed:Nat→Bool} {a:Act} {d:Tmp} {j:Nat} (hj:aB ops j=some d) (hl:listed j=true) (hs:d < a.tmps.size):∀ (n:Nat),j < n→n≤ops.size→(ay ops vals listed a n).eval (.tmp d)=vals j
 | 0,h,_=>by omega
 | n+1,h,hn=>by
  simp only[ay]
  by_cases he:j=n
  ·subst he
   rw[if_pos hl,hj]
   exact eval_put_same (by rw[dm];exact hs)
  ·split
   ·rw[nY]
    ·exact dn hd hj hl hs n (by omega) (by omega)
    ·exact rW hd (by omega) he hj
   ·exact dn hd hj hl hs n (by omega) (by omega)
theorem qi (hd:bM ops=true) {vals:Nat→Value} {listed:Nat→Bool} {a:Act} {i:Nat} {v:Value} (hi:listed i=false):∀ (n:Nat),i < n→n≤ops.size→
  (ay ops vals listed a n).put (aB ops i) v=ay ops (fun k=>if k=i then v else vals k) (fun k=>if k=i then true else listed k) a n
 | 0,h,_=>by omega
 | n+1,h,hn=>by
  by_cases he:i=n
  ·subst he
   simp only[ay,hi,if_true,if_false,Bool.false_eq_true]
   congr 1
   exact dP i (fun k hk=>by
    have:k≠i:=by omega
    simp[this])
  ·have ih:=qi hd (vals:=vals) (listed:=listed) (a:=a) (v:=v) hi n (by omega) (by omega)
   have hne:n≠i:=fun e=>he e.symm
   simp only[ay,if_neg hne]
   split
   ·rw[←ih]
    exact Act.put_comm _ _ _ (fun d hd1 hd2=>rW hd (by omega) hne hd1 hd2)
   ·exact ih
def Oo (P:Program) (ops:Array Oper) (Q:Exit→Act→World→Prop) (V:Nat→Value→World→Prop) (G:World→Prop) (Gr:Nat→World→World→Prop) (a0:Act) (i:Nat) (o:Oper):Prop:=
 ∀ (a':Act) (w':World) (vals:Nat→Value),G w'→(∀ e∈o.after.toList,Region.binds .any e=true→V e.on (vals e.on) w'∧∀ d,aB ops e.on=some d→a'.eval (.tmp d)=vals e.on)→
  (∀ d,(List.range ops.size).all (fun j=>aB ops j !=some d)=true→a'.eval (.tmp d)=a0.eval (.tmp d))→a'.tmps.size=a0.tmps.size→
  ∀ K:Act→World→Prop,(∀ v w'',V i v w''→G w''→Gr i w' w''→K (a'.put o.dst v) w'')→wpOp P ops Q i K a' w'
theorem iF {listed:Array Bool} {i:Nat} (hi:i < listed.size) (k:Nat) (d:Bool):(listed.setIfInBounds i true).getD k d=if k=i then true else listed.getD k d:=by
 by_cases h:k=i
 ·subst h;simp[Array.getD,hi]
 ·simp only[Array.getD_eq_getD_getElem?,Array.getElem?_setIfInBounds,if_neg (Ne.symm h),if_neg h]
theorem Dx (hd:bM ops=true) (V:Nat→Value→World→Prop) (G:World→Prop) (Gr:Nat→World→World→Prop) (a0:Act)
  (hsz:(List.range ops.size).all (fun i=>match aB ops i with | some d=>decide (d < a0.tmps.size) | none=>true)=true)
  (rM:∀ i j v w w',i≠j→V i v w→Gr j w w'→V i v w')
  (hstep:∀ i o,ops[i]? =some o→Oo P ops Q V G Gr a0 i o)
  (hdone:∀ (vals:Nat→Value) w',G w'→(∀ i,i < ops.size→V i (vals i) w')→Q .normal (ay ops vals (fun _=>true) a0 ops.size) w')
  (hon:ops.all (fun o=>o.after.all fun e=>decide (e.on < ops.size))=true):
  ∀ (fuel:Nat) (listed:Array Bool) (vals:Nat→Value) (w:World),listed.size=ops.size→((List.range ops.size).filter fun i=>!listed.getD i true).length≤fuel→G w→(∀ i,i < ops.size→listed.getD i false=true→V i (vals i) w)→
   (∀ i,i < ops.size→Region.ready .any ops listed=[]→listed.getD i false=true)→
   (∀ listed',listed'.size=ops.size→Region.ready .any ops listed'=[]→∀ i,i < ops.size→listed'.getD i false=true)→
   wpAny P .any ops Q fuel listed (ay ops vals (fun i=>listed.getD i false) a0 ops.size) w:=by
 intro fuel
 induction fuel with
 | zero=>
  intro listed vals w hls hf hG hV hall hall'
  have hdn:∀ i,i < ops.size→listed.getD i false=true:=by
   intro i hi
   cases h:listed.getD i false with
   | true=>rfl
   | false=>
    have hi':i < listed.size:=by omega
    have h2:listed.getD i true=false:=by simp only[Array.getD,hi',dite_true]at h⊢;exact h
    have hm:i∈(List.range ops.size).filter fun i=>!listed.getD i true:=List.mem_filter.2 ⟨List.mem_range.2 hi,by simp[h2]⟩
    have:0 < ((List.range ops.size).filter fun i=>!listed.getD i true).length:=List.length_pos_of_mem hm
    omega
  have hr:Region.ready .any ops listed=[]:=by
   unfold Region.ready
   rw[List.filter_eq_nil_iff]
   intro i hi
   have hi':=List.mem_range.1 hi
   have h1:=hdn i hi'
   have h2:listed.getD i true=true:=by
    have:i < listed.size:=by omega
    simp only[Array.getD,this,dite_true]at h1⊢;exact h1
   simp[h2]
  refine⟨hr,?_⟩
  rw[dP (vals':=vals) (listed':=fun _=>true) ops.size (fun i hi=>⟨hdn i hi,fun _=>rfl⟩)]
  exact hdone vals w hG (fun i hi=>hV i hi (hdn i hi))
 | succ fuel ih=>
  intro listed vals w hls hf hG hV hall hall'
  refine⟨fun hr=>?_,fun i hi=>?_⟩
  ·have hdn:=hall' listed hls hr
   rw[dP (vals':=vals) (listed':=fun _=>true) ops.size (fun i hi=>⟨hdn i hi,fun _=>rfl⟩)]
   exact hdone vals w hG (fun i hi=>hV i hi (hdn i hi))
  ·unfold Region.ready at hi
   rw[List.mem_filter,List.mem_range]at hi
   obtain⟨his,hi2⟩:=hi
   simp only[Bool.and_eq_true,Bool.not_eq_true']at hi2
   obtain⟨hil,hi3⟩:=hi2
   obtain⟨o,ho⟩:∃ o,ops[i]? =some o:=⟨_,Array.getElem?_eq_getElem his⟩
   rw[ho]at hi3
   simp only[Option.map_some,Option.getD_some]at hi3
   have GN:listed.getD i false=false:=by
    have:i < listed.size:=by omega
    simp only[Array.getD,this,dite_true]at hil⊢;exact hil
   have Nk:=Array.all_eq_true_iff_forall_mem.1 hon o (Array.mem_of_getElem? ho)
   refine hstep i o ho _ w vals hG (fun e he hb=>?_) (fun d uw=>?_) (dm _) _ (fun v w'' hv YK hgr=>?_)
   ·have h1:=Array.all_eq_true_iff_forall_mem.1 hi3 e (by simpa using he)
    rw[hb]at h1
    simp only[Bool.not_true,Bool.false_or]at h1
    have heo:e.on < ops.size:=by
     have:=Array.all_eq_true_iff_forall_mem.1 Nk e (by simpa using he)
     simpa using this
    refine⟨hV e.on heo h1,fun d hde=>?_⟩
    have hds:d < a0.tmps.size:=by
     have:=List.all_eq_true.1 hsz e.on (List.mem_range.2 heo)
     rw[hde]at this
     simpa using this
    exact dn hd hde h1 hds ops.size heo (Nat.le_refl _)
   ·refine eF ops.size (fun j hj=>?_)
    have:=List.all_eq_true.1 uw j (List.mem_range.2 hj)
    simpa using this
   ·have hdo:o.dst=aB ops i:=by unfold aB;rw[ho];rfl
    rw[hdo,qi hd GN ops.size his (Nat.le_refl _)]
    have hcg:ay ops (fun k=>if k=i then v else vals k) (fun k=>if k=i then true else listed.getD k false) a0 ops.size=ay ops (fun k=>if k=i then v else vals k) (fun k=>(listed.setIfInBounds i true).getD k false) a0 ops.size:=
     dP ops.size (fun k hk=>⟨by rw[iF (by omega)],fun _=>rfl⟩)
    rw[hcg]
    refine ih (listed.setIfInBounds i true) _ w'' (by simpa using hls) ?_ YK (fun k hk hkl=>?_) (fun k hk hr=>hall' _ (by simpa using hls) hr k hk) hall'
    ·have hsub:((List.range ops.size).filter fun k=>!(listed.setIfInBounds i true).getD k true).length < ((List.range ops.size).filter fun k=>!listed.getD k true).length:=by
      have e1:((List.range ops.size).filter fun k=>!(listed.setIfInBounds i true).getD k true)=((List.range ops.size).filter fun k=>!listed.getD k true).filter fun k=>decide (k≠i):=by
       rw[List.filter_filter]
       apply List.filter_congr
       intro k hk
       rw[iF (by omega)]
       by_cases hki:k=i <;> simp[hki]
      rw[e1]
      refine List.length_filter_lt_length_iff_exists.2 ⟨i,List.mem_filter.2 ⟨List.mem_range.2 his,by simp[hil]⟩,by simp⟩
     omega
    ·rw[iF (by omega)]at hkl
     by_cases hki:k=i
     ·subst hki;simp only[if_true];exact hv
     ·simp only[if_neg hki]at hkl⊢
      exact rM k i _ _ _ hki (hV k hk hkl) hgr
def lC (ops:Array Oper):Bool:=(List.range ops.size).all fun i=>match ops[i]? with | some o=>o.after.all fun e=>decide (e.on < i) | none=>true
theorem Ib (h:lC ops=true) {listed:Array Bool} (hls:listed.size=ops.size) (hr:Region.ready .any ops listed=[]):∀ n i,i < n→i < ops.size→listed.getD i false=true:=by
 intro n
 induction n with
 | zero=>intro i hi;omega
 | succ n ih=>
  intro i hi his
  by_cases hin:i < n
  ·exact ih i hin his
  obtain rfl:i=n:=by omega
  cases hl:listed.getD i false with
  | true=>rfl
  | false=>
   exfalso
   have TB:i < listed.size:=by omega
   have hl':listed.getD i true=false:=by simp only[Array.getD,TB,dite_true]at hl⊢;exact hl
   obtain⟨o,ho⟩:∃ o,ops[i]? =some o:=⟨_,Array.getElem?_eq_getElem his⟩
   have he:=List.all_eq_true.1 h i (List.mem_range.2 his)
   rw[ho]at he
   have hm:i∈Region.ready .any ops listed:=by
    unfold Region.ready
    refine List.mem_filter.2 ⟨List.mem_range.2 his,?_⟩
    rw[hl',ho]
    simp only[Bool.not_false,Option.map_some,Option.getD_some,Bool.true_and]
    refine Array.all_eq_true_iff_forall_mem.2 fun e hem=>?_
    have h1:=Array.all_eq_true_iff_forall_mem.1 he e hem
    simp only[decide_eq_true_eq]at h1
    rw[ih e.on (by omega) (by omega),Bool.or_true]
   rw[hr]at hm
   cases hm
theorem NR (h:lC ops=true):ops.all (fun o=>o.after.all fun e=>decide (e.on < ops.size))=true:=by
 refine Array.all_eq_true_iff_forall_mem.2 fun o ho=>?_
 obtain⟨i,hi,rfl⟩:=Array.mem_iff_getElem.1 ho
 have he:=List.all_eq_true.1 h i (List.mem_range.2 hi)
 rw[Array.getElem?_eq_getElem hi]at he
 refine Array.all_eq_true_iff_forall_mem.2 fun e hem=>?_
 have h1:=Array.all_eq_true_iff_forall_mem.1 he e hem
 simp only[decide_eq_true_eq]at h1⊢
 omega
theorem qG {id:Nat} {a:Act} {w:World} (hm:P.follows .mixedOrders=true) (hd:bM ops=true) (hb:lC ops=true)
  (V:Nat→Value→World→Prop) (G:World→Prop) (Gr:Nat→World→World→Prop)
  (hsz:(List.range ops.size).all (fun i=>match aB ops i with | some d=>decide (d < a.tmps.size) | none=>true)=true)
  (rM:∀ i j v w w',i≠j→V i v w→Gr j w w'→V i v w')
  (h0:G w.drew)
  (hstep:∀ i o,ops[i]? =some o→Oo P ops Q V G Gr a i o)
  (hdone:∀ (vals:Nat→Value) w',G w'→(∀ i,i < ops.size→V i (vals i) w')→Q .normal (ay ops vals (fun _=>true) a ops.size) w'):
  (Code.region id ops true).wp P Q a w:=by
 refine wp_region_any hm ?_
 have hnone:ay ops (fun _=>undef) (fun i=>(Array.replicate ops.size false).getD i false) a ops.size=a:=by
  have:∀ n,ay ops (fun _=>undef) (fun i=>(Array.replicate ops.size false).getD i false) a n=a:=by
   intro n
   induction n with
   | zero=>rfl
   | succ n ih=>
    have hf:(Array.replicate ops.size false).getD n false=false:=by
     by_cases h:n < ops.size <;> simp[Array.getD,h]
    simp only[ay,hf,Bool.false_eq_true,if_false];exact ih
  exact this _
 have hA:∀ listed',listed'.size=ops.size→Region.ready .any ops listed'=[]→∀ i,i < ops.size→listed'.getD i false=true:=fun listed' h1 h2 i hi=>Ib hb h1 h2 (i+1) i (by omega) hi
 have:=Dx hd V G Gr a hsz rM hstep hdone (NR hb) ops.size (Array.replicate ops.size false) (fun _=>undef) w.drew (by simp) (by
  have:=List.length_filter_le (fun i=>!(Array.replicate ops.size false).getD i true) (List.range ops.size)
  simpa using this) h0 (fun i hi h=>by simp[Array.getD,hi]at h) (fun i hi hr=>hA _ (by simp) hr i hi) hA
 rw[hnone]at this
 exact this
end
end Go.Proofs.YtcddlnmcjmhbcaaDoor
-- short
