/-
  A region that draws its order and whose guards all let pass, of which each operation yields a value of which something is known (that may depend on the run): each is met once, over the frame that holds such values. Said of any program. Nothing of the program.
-/
import Derived.Test.YtcddlnmcjmhbcaaDoorReg2
namespace Go.Proofs.YtcddlnmcjmhbcaaDoor
set_option linter.unusedVariables false
open Go
section
variable {P:Program} {ops:Array Oper} {Q:Exit→Act→World→Prop}
theorem nC {o:Oper} {aL a':Act} {K:Act→World→Prop} {R:Value→World→Prop} {r:Result Next} (hs:∀ d,o.dst=some d→d < aL.tmps.size)
  (h:o.upon P aL (fun a'' w''=>∃ v,a''=aL.put o.dst v∧R v w'') (fun ex _ w''=>Q ex a' w'') r) (hK:∀ v w'',R v w''→K (a'.put o.dst v) w''):o.upon P a' K Q r:=by
 cases r with
 | ok n w'=>
  cases n with
  | value x=>
   simp only[Oper.upon]at h⊢
   obtain⟨v,h1,h2⟩:=h
   rw[put_any (oG hs h1)];exact hK _ _ h2
  | skip=>
   simp only[Oper.upon]at h⊢
   obtain⟨v,h1,h2⟩:=h
   rw[put_any (oG hs h1)];exact hK _ _ h2
  | defer d=>
   simp only[Oper.upon]at h
   obtain⟨v,h1,h2⟩:=h
   have h1:=congrArg (·.defers) h1
   have e1:∀ (a:Act) (x:Option Tmp) (v:Value),(a.put x v).defers=a.defers:=by intro a x v;cases x <;> rfl
   simp only[e1]at h1
   exact absurd h1 (List.cons_ne_self _ _)
  | enter f args=>
   simp only[Oper.upon]at h⊢
   refine Calls.mono h fun e w'' he=>?_
   cases e with
   | returned x=>
    simp only at he⊢
    obtain⟨v,h1,h2⟩:=he
    rw[put_any (oG hs h1)];exact hK _ _ h2
   | panicked c=>exact he
   | outgrown=>obtain⟨_,w,hw⟩:=he;exact⟨a',w,hw⟩
  | row row args=>
   simp only[Oper.upon]at h⊢
   refine Rows.mono h fun x w'' he=>?_
   obtain⟨v,h1,h2⟩:=he
   rw[put_any (oG hs h1)];exact hK _ _ h2
  | _=>exact h.elim
 | halt x w'=>cases x <;> simp only[Oper.upon]at h⊢<;> exact h
def bu (o:Oper):List Nat:=(o.after.toList.filter (Region.binds .any)).map (·.on)
def fU (ops:Array Oper):Bool:=ops.all fun o=>match o.guard with | some (g,_)=>(bu o).contains g&&decide (g < ops.size)&&(aB ops g).isSome | none=>true
def Dj (V:Nat→Value→World→Prop) (o:Oper):Prop:=match o.guard with
 | none=>True
 | some (g,b)=>∀ (v:Value) (w:World),V g v w→v=.bool b
theorem mX {a':Act} {g d:Nat} {b:Bool} (hd:aB ops g=some d) (hs:d < a'.tmps.size) (he:a'.eval (.tmp d)=.bool b):yielded ops a'.tmps g=some b:=by
 unfold yielded
 have:(ops[g]?).bind (·.dst)=some d:=hd
 rw[this]
 simp only[Act.eval,Array.getD,hs,dite_true]at he
 simp only[Option.bind_some]
 rw[Array.getElem?_eq_getElem hs]
 have he':a'.tmps[d]=.bool b:=he
 rw[he']
theorem vN {id:Nat} {a:Act} {w:World} (hm:P.follows .mixedOrders=true) (hd:bM ops=true) (hb:lC ops=true) (kJ:wJ ops=true) (hsel:Region.noSelect ops=true) (iR:fU ops=true)
  (V:Nat→Value→World→Prop) (G:World→Prop) (Gr:Nat→World→World→Prop)
  (hgv:∀ (i:Nat) (o:Oper),ops[i]? =some o→Dj V o)
  (hsz:(List.range ops.size).all (fun i=>match aB ops i with | some d=>decide (d < a.tmps.size) | none=>true)=true)
  (rM:∀ i j v w w',i≠j→V i v w→Gr j w w'→V i v w')
  (h0:G w.drew)
  (hstep:∀ i o,ops[i]? =some o→∀ (vals:Nat→Value) w',G w'→(∀ j,(bu o).contains j=true→V j (vals j) w')→
   ∀ (K:Act→World→Prop) (Qp:Exit→Act→World→Prop),(∀ v w'',V i v w''→G w''→Gr i w' w''→K ((ay ops vals (fun _=>true) a ops.size).put o.dst v) w'')→o.wp P (ay ops vals (fun _=>true) a ops.size) w' K Qp)
  (hdone:∀ (vals:Nat→Value) w',G w'→(∀ i,i < ops.size→V i (vals i) w')→Q .normal (ay ops vals (fun _=>true) a ops.size) w'):
  (Code.region id ops true).wp P Q a w:=by
 refine qG hm hd hb V G Gr hsz rM h0 ?_ hdone
 intro i o jS a' w' vals hG hv uw hsize K hK
 have his:i < ops.size:=(Array.getElem?_eq_some_iff.1 jS).1
 have nO:=List.all_eq_true.1 kJ i (List.mem_range.2 his)
 rw[jS]at nO
 simp only at nO
 have look:∀ t,t∈o.looksAt ops→a'.eval (.tmp t)=(ay ops vals (fun _=>true) a ops.size).eval (.tmp t):=by
  intro t ht
  have h1:=List.all_eq_true.1 nO t ht
  by_cases hx:∃ j,j < ops.size∧aB ops j=some t
  ·obtain⟨j,hj,hjt⟩:=hx
   have h2:=List.all_eq_true.1 h1 j (List.mem_range.2 hj)
   rw[hjt]at h2
   simp only[bne_self_eq_false,Bool.false_or]at h2
   obtain⟨e,he,hbe⟩:=List.any_eq_true.1 h2
   simp only[Bool.and_eq_true,beq_iff_eq]at hbe
   obtain⟨hv1,hv2⟩:=hv e he hbe.1
   have heo:aB ops e.on=some t:=by rw[hbe.2];exact hjt
   have hts:t < a.tmps.size:=by
    have:=List.all_eq_true.1 hsz j (List.mem_range.2 hj)
    rw[hjt]at this
    simpa using this
   rw[hv2 t heo,dn hd heo rfl hts ops.size (by rw[hbe.2];exact hj) (Nat.le_refl _)]
  ·have hall:(List.range ops.size).all (fun j=>aB ops j !=some t)=true:=by
    refine List.all_eq_true.2 fun j hj=>?_
    rw[bne_iff_ne]
    exact fun e=>hx ⟨j,List.mem_range.1 hj,e⟩
   rw[uw t hall,eF ops.size (fun j hj e=>hx ⟨j,hj,e⟩)]
 have yT:execOp a'.eval o=execOp (ay ops vals (fun _=>true) a ops.size).eval o:=by
  refine execOp_congr o (Region.noSelect_spec hsel i o · · jS) fun x hx=>?_
  cases x with
  | tmp t=>exact look t (List.mem_append_left _ (List.mem_filterMap.2 ⟨.tmp t,by simpa using hx,rfl⟩))
  | const c=>rfl
  | global g=>rfl
  | func f=>rfl
 have hwant:Region.wanted o (yielded ops a'.tmps)=true:=by
  have h1:=Array.all_eq_true_iff_forall_mem.1 iR o (Array.mem_of_getElem? jS)
  have h2:=hgv i o jS
  unfold Dj at h2
  unfold Region.wanted
  cases hg:o.guard with
  | none=>rfl
  | some gb=>
   obtain⟨g,b⟩:=gb
   rw[hg]at h1 h2
   simp only[Bool.and_eq_true,decide_eq_true_eq,Option.isSome_iff_exists]at h1 h2
   obtain⟨⟨h3,hgs⟩,d,hd'⟩:=h1
   unfold bu at h3
   rw[List.contains_iff_mem,List.mem_map]at h3
   obtain⟨e,he,heg⟩:=h3
   obtain⟨he1,he2⟩:=List.mem_filter.1 he
   obtain⟨hv1,hv2⟩:=hv e he1 he2
   rw[heg]at hv1 hv2
   have hds:d < a.tmps.size:=by
    have:=List.all_eq_true.1 hsz g (List.mem_range.2 hgs)
    rw[hd']at this
    simpa using this
   have:=mX hd' (by rw[hsize];exact hds) ((hv2 d hd').trans (h2 _ _ hv1))
   simp[this]
 unfold wpOp
 simp only[jS,hwant,if_true]
 left
 unfold Oper.wp
 rw[yT]
 refine nC (aL:=ay ops vals (fun _=>true) a ops.size) (R:=fun v w''=>V i v w''∧G w''∧Gr i w' w'') ?_ (hstep i o jS vals w' hG ?_ _ (fun ex _ w''=>Q ex a' w'') fun v w'' h1 h2 h3=>⟨v,rfl,h1,h2,h3⟩) fun v w'' h=>hK _ _ h.1 h.2.1 h.2.2
 ·intro d hdd
  rw[dm]
  have:=List.all_eq_true.1 hsz i (List.mem_range.2 his)
  have hdo:aB ops i=some d:=by unfold aB;rw[jS];exact hdd
  rw[hdo]at this
  simpa using this
 ·intro j hj
  unfold bu at hj
  rw[List.contains_iff_mem,List.mem_map]at hj
  obtain⟨e,he,rfl⟩:=hj
  obtain⟨he1,he2⟩:=List.mem_filter.1 he
  exact(hv e he1 he2).1
theorem uH {id:Nat} {a:Act} {aF:(Nat→Value)→Act} {w:World} (V:Nat→Value→World→Prop) (G:World→Prop) (Gr:Nat→World→World→Prop) (hF:∀ vals,ay ops vals (fun _=>true) a ops.size=aF vals)
  (hm:P.follows .mixedOrders=true) (hd:bM ops=true) (hb:lC ops=true) (kJ:wJ ops=true) (hsel:Region.noSelect ops=true) (iR:fU ops=true)
  (hgv:bZ (fun _ o=>Dj V o) 0 ops.toList)
  (hsz:(List.range ops.size).all (fun i=>match aB ops i with | some d=>decide (d < a.tmps.size) | none=>true)=true)
  (rM:∀ i j v w w',i≠j→V i v w→Gr j w w'→V i v w')
  (h0:G w.drew)
  (hstep:bZ (fun i o=>∀ (vals:Nat→Value) w',G w'→(∀ j,(bu o).contains j=true→V j (vals j) w')→
   ∀ (K:Act→World→Prop) (Qp:Exit→Act→World→Prop),(∀ v w'',V i v w''→G w''→Gr i w' w''→K ((aF vals).put o.dst v) w'')→o.wp P (aF vals) w' K Qp) 0 ops.toList)
  (hdone:∀ (vals:Nat→Value) w',G w'→(∀ i,i < ops.size→V i (vals i) w')→Q .normal (aF vals) w'):
  (Code.region id ops true).wp P Q a w:=by
 refine vN hm hd hb kJ hsel iR V G Gr (fun i o jS=>by have:=bZ.get hgv i o (by simpa using jS);exact this) hsz rM h0 (fun i o jS vals w' hG hv=>?_) (fun vals w' hG hv=>?_)
 ·have:=bZ.get hstep i o (by simpa using jS) vals w' hG hv
  rw[Nat.zero_add]at this
  rw[hF];exact this
 ·rw[hF];exact hdone vals w' hG hv
end
end Go.Proofs.YtcddlnmcjmhbcaaDoor
-- short
