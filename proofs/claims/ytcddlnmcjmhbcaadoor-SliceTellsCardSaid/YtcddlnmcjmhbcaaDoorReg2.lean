/-
  A region that draws its order, of which each operation yields a value that is known ahead, whatever the order: each is met once, over the frame that holds all these values. Said of any program. Nothing of the program.
-/
import Derived.Test.YtcddlnmcjmhbcaaDoorReg
namespace Go.Proofs.YtcddlnmcjmhbcaaDoor
set_option linter.unusedVariables false
open Go
section
variable {P:Program} {ops:Array Oper} {Q:Exit→Act→World→Prop}
def zY (P:Program) (o:Oper) (aL:Act) (v:Value) (G:World→Prop) (w':World):Prop:=
 ∀ (K:Act→World→Prop) (Qp:Exit→Act→World→Prop),(∀ w'',G w''→K (aL.put o.dst v) w'')→o.wp P aL w' K Qp
def wJ (ops:Array Oper):Bool:=(List.range ops.size).all fun i=>match ops[i]? with
 | some o=>(o.looksAt ops).all fun t=>(List.range ops.size).all fun j=>aB ops j !=some t||o.after.toList.any (fun e=>Region.binds .any e&&e.on==j)
 | none=>true
theorem oG {aL:Act} {x:Option Tmp} {v v':Value} (hs:∀ d,x=some d→d < aL.tmps.size) (h:aL.put x v=aL.put x v'):x=none∨v=v':=by
 cases x with
 | none=>exact Or.inl rfl
 | some d=>
  right
  have h1:=eval_put_same (v:=v) (hs d rfl)
  rw[h,eval_put_same (hs d rfl)]at h1
  exact h1.symm
theorem put_any {a:Act} {x:Option Tmp} {v v':Value} (h:x=none∨v=v'):a.put x v=a.put x v':=by
 rcases h with rfl | rfl <;> rfl
theorem zS {o:Oper} {aL a':Act} {K:Act→World→Prop} {G:World→Prop} {v:Value} {r:Result Next} (hs:∀ d,o.dst=some d→d < aL.tmps.size)
  (h:o.upon P aL (fun a'' w''=>a''=aL.put o.dst v∧G w'') (fun ex _ w''=>Q ex a' w'') r) (hK:∀ w'',G w''→K (a'.put o.dst v) w''):o.upon P a' K Q r:=by
 cases r with
 | ok n w'=>
  cases n with
  | value x=>
   simp only[Oper.upon]at h⊢
   rw[put_any (oG hs h.1)];exact hK _ h.2
  | skip=>
   simp only[Oper.upon]at h⊢
   rw[put_any (oG hs h.1)];exact hK _ h.2
  | defer d=>
   simp only[Oper.upon]at h
   have h1:=congrArg (·.defers) h.1
   have e1:∀ (a:Act) (x:Option Tmp) (v:Value),(a.put x v).defers=a.defers:=by intro a x v;cases x <;> rfl
   simp only[e1]at h1
   exact absurd h1 (List.cons_ne_self _ _)
  | enter f args=>
   simp only[Oper.upon]at h⊢
   refine Calls.mono h fun e w'' he=>?_
   cases e with
   | returned x=>simp only at he⊢;rw[put_any (oG hs he.1)];exact hK _ he.2
   | panicked c=>exact he
   | outgrown=>obtain⟨_,w,hw⟩:=he;exact⟨a',w,hw⟩
  | row row args=>
   simp only[Oper.upon]at h⊢
   refine Rows.mono h fun x w'' he=>?_
   rw[put_any (oG hs he.1)];exact hK _ he.2
  | _=>exact h.elim
 | halt x w'=>cases x <;> simp only[Oper.upon]at h⊢<;> exact h
theorem Fq {a b:Act} {j:Nat} (h:∀ d,aB ops j=some d→d < a.tmps.size∧d < b.tmps.size∧a.eval (.tmp d)=b.eval (.tmp d)):yielded ops a.tmps j=yielded ops b.tmps j:=by
 unfold yielded
 have hd:(ops[j]?).bind (·.dst)=aB ops j:=rfl
 rw[hd]
 cases hx:aB ops j with
 | none=>rfl
 | some d=>
  obtain⟨h1,h2,h3⟩:=h d hx
  simp only[Option.bind_some]
  simp only[Act.eval,Array.getD,h1,h2,dite_true]at h3
  rw[Array.getElem?_eq_getElem h1,Array.getElem?_eq_getElem h2]
  simp only[Array.getInternal_eq_getElem]at h3
  rw[h3]
theorem xW {id:Nat} {a:Act} {w:World} (hm:P.follows .mixedOrders=true) (hd:bM ops=true) (hb:lC ops=true) (kJ:wJ ops=true) (hsel:Region.noSelect ops=true)
  (vals:Nat→Value) (G:World→Prop)
  (hsz:(List.range ops.size).all (fun i=>match aB ops i with | some d=>decide (d < a.tmps.size) | none=>true)=true)
  (h0:G w.drew)
  (hstep:∀ i o,ops[i]? =some o→∀ w',G w'→if Region.wanted o (yielded ops (ay ops vals (fun _=>true) a ops.size).tmps)=true then zY P o (ay ops vals (fun _=>true) a ops.size) (vals i) G w' else vals i=undef)
  (hdone:∀ w',G w'→Q .normal (ay ops vals (fun _=>true) a ops.size) w'):
  (Code.region id ops true).wp P Q a w:=by
 refine qG hm hd hb (fun i v _=>v=vals i) G (fun _ _ _=>True) hsz (fun i j v w w' _ h _=>h) h0 ?_ ?_
 ·intro i o jS a' w' vals' hG hv uw hsize K hK
  have his:i < ops.size:=(Array.getElem?_eq_some_iff.1 jS).1
  have nO:=List.all_eq_true.1 kJ i (List.mem_range.2 his)
  rw[jS]at nO
  simp only at nO
  have look:∀ t,t∈o.looksAt ops→a'.eval (.tmp t)=(ay ops vals (fun _=>true) a ops.size).eval (.tmp t):=by
   intro t ht
   have h1:=List.all_eq_true.1 nO t ht
   by_cases hx:∃ j,j < ops.size∧aB ops j=some t
   ·obtain⟨j,hj,hjt⟩:=hx
    have h2:=List.all_eq_true.1 h1 j (List.mem_range.2 hj)
    rw[hjt]at h2
    simp only[bne_self_eq_false,Bool.false_or]at h2
    obtain⟨e,he,hbe⟩:=List.any_eq_true.1 h2
    simp only[Bool.and_eq_true,beq_iff_eq]at hbe
    obtain⟨hv1,hv2⟩:=hv e he hbe.1
    have heo:aB ops e.on=some t:=by rw[hbe.2];exact hjt
    have hts:t < a.tmps.size:=by
     have:=List.all_eq_true.1 hsz j (List.mem_range.2 hj)
     rw[hjt]at this
     simpa using this
    rw[hv2 t heo,hv1,dn hd heo rfl hts ops.size (by rw[hbe.2];exact hj) (Nat.le_refl _)]
   ·have hall:(List.range ops.size).all (fun j=>aB ops j !=some t)=true:=by
     refine List.all_eq_true.2 fun j hj=>?_
     rw[bne_iff_ne]
     exact fun e=>hx ⟨j,List.mem_range.1 hj,e⟩
    rw[uw t hall,eF ops.size (fun j hj e=>hx ⟨j,hj,e⟩)]
  have yT:execOp a'.eval o=execOp (ay ops vals (fun _=>true) a ops.size).eval o:=by
   refine execOp_congr o (Region.noSelect_spec hsel i o · · jS) fun x hx=>?_
   cases x with
   | tmp t=>exact look t (List.mem_append_left _ (List.mem_filterMap.2 ⟨.tmp t,by simpa using hx,rfl⟩))
   | const c=>rfl
   | global g=>rfl
   | func f=>rfl
  have hwant:Region.wanted o (yielded ops a'.tmps)=Region.wanted o (yielded ops (ay ops vals (fun _=>true) a ops.size).tmps):=by
   unfold Region.wanted
   cases hg:o.guard with
   | none=>rfl
   | some gw=>
    obtain⟨g,want⟩:=gw
    have:yielded ops a'.tmps g=yielded ops (ay ops vals (fun _=>true) a ops.size).tmps g:=by
     refine Fq fun d hgd=>?_
     have hgs:g < ops.size:=by
      rcases Nat.lt_or_ge g ops.size with h | h
      ·exact h
      ·unfold aB at hgd;rw[Array.getElem?_eq_none h]at hgd;simp at hgd
     have hds:d < a.tmps.size:=by
      have:=List.all_eq_true.1 hsz g (List.mem_range.2 hgs)
      rw[hgd]at this
      simpa using this
     refine⟨by rw[hsize];exact hds,by rw[dm];exact hds,look d ?_⟩
     have hgd':(ops[g]?).bind (·.dst)=some d:=hgd
     simp[Oper.looksAt,hg,hgd']
    simp only[this]
  have hst:=hstep i o jS w' hG
  unfold wpOp
  simp only[jS,hwant]
  split at hst
  ·rename_i hwt
   rw[if_pos hwt]
   left
   unfold Oper.wp
   rw[yT]
   refine zS (aL:=ay ops vals (fun _=>true) a ops.size) (G:=G) (v:=vals i) ?_ (hst _ (fun ex _ w''=>Q ex a' w'') fun w'' h=>⟨rfl,h⟩) fun w'' h=>hK _ _ rfl h trivial
   intro d hdd
   rw[dm]
   have:=List.all_eq_true.1 hsz i (List.mem_range.2 his)
   have hdo:aB ops i=some d:=by unfold aB;rw[jS];exact hdd
   rw[hdo]at this
   simpa using this
  ·rename_i hwt
   rw[if_neg hwt,←hst]
   exact hK _ _ rfl hG trivial
 ·intro vals' w' hG hall
  rw[dP (vals':=vals) (listed':=fun _=>true) ops.size (fun i hi=>⟨rfl,fun _=>hall i hi⟩)]
  exact hdone w' hG
def bZ (F:Nat→Oper→Prop):Nat→List Oper→Prop
 | _,[]=>True
 | i,o :: l=>F i o∧bZ F (i+1) l
theorem bZ.get {F:Nat→Oper→Prop}:∀ {l:List Oper} {i:Nat},bZ F i l→∀ k o,l[k]? =some o→F (i+k) o
 | [],_,_,k,o,h=>by simp at h
 | x :: l,i,h,0,o,ho=>by simp at ho;subst ho;exact h.1
 | x :: l,i,h,k+1,o,ho=>by
  have:=bZ.get h.2 k o (by simpa using ho)
  have e:i+(k+1)=i+1+k:=by omega
  rw[e];exact this
theorem dN {id:Nat} {a aF:Act} {w:World} (vals:List Value) (G:World→Prop) (hF:ay ops (fun i=>vals.getD i undef) (fun _=>true) a ops.size=aF) (hm:P.follows .mixedOrders=true) (hd:bM ops=true) (hb:lC ops=true) (kJ:wJ ops=true) (hsel:Region.noSelect ops=true)
  (hsz:(List.range ops.size).all (fun i=>match aB ops i with | some d=>decide (d < a.tmps.size) | none=>true)=true)
  (h0:G w.drew)
  (hstep:bZ (fun i o=>∀ w',G w'→if Region.wanted o (yielded ops aF.tmps)=true then zY P o aF (vals.getD i undef) G w' else vals.getD i undef=undef) 0 ops.toList)
  (hdone:∀ w',G w'→Q .normal aF w'):
  (Code.region id ops true).wp P Q a w:=by
 subst hF
 refine xW hm hd hb kJ hsel (fun i=>vals.getD i undef) G hsz h0 (fun i o jS w' hG=>?_) hdone
 have:=bZ.get hstep i o (by simpa using jS) w' hG
 rw[Nat.zero_add]at this
 exact this
end
end Go.Proofs.YtcddlnmcjmhbcaaDoor
-- short
