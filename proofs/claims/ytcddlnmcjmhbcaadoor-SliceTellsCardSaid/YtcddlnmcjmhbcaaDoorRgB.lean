/-
  Joined texts: Reg4 Reg5 Reg6 Reg7 Reg8 Reg9 RegT.
-/
import Derived.Test.YtcddlnmcjmhbcaaDoorReg3
namespace Go.Proofs.YtcddlnmcjmhbcaaDoor
set_option linter.unusedVariables false
open Go
section
variable {P:Program} {ops:Array Oper} {Q:Exit→Act→World→Prop}
def xE (P:Program) (R:Value→World→Prop):Result Next→Prop
  | .ok (.value v) w'=>R v w'
  | .ok .skip w'=>R undef w'
  | .ok (.enter f args) w'=>Calls P f args w' fun e w''=>∃ v,e=.returned v∧R v w''
  | _=>False
def aO (P:Program) (o:Oper) (ρ:Operand→Value) (w:World) (R:Value→World→Prop):Prop:=xE P R ((execOp ρ o).run P w)
theorem aO.mono {o:Oper} {ρ:Operand→Value} {w:World} {R R':Value→World→Prop} (h:aO P o ρ w R) (k:∀ v w',R v w'→R' v w'):aO P o ρ w R':=by
  unfold aO at*
  generalize (execOp ρ o).run P w=r at*
  unfold xE at*
  split at h
  · exact k _ _ h
  · exact k _ _ h
  · refine Calls.mono h fun e w'' he=>?_
    obtain⟨v,h1,h2⟩:=he
    exact⟨v,h1,k _ _ h2⟩
  · exact h.elim
theorem aO.wp {o:Oper} {a:Act} {w:World} {K:Act→World→Prop} (h:aO P o a.eval w fun v w''=>K (a.put o.dst v) w''):o.wp P a w K Q:=by
  unfold Oper.wp
  unfold aO at h
  generalize (execOp a.eval o).run P w=r at*
  unfold xE at h
  split at h
  · exact h
  · exact h
  · simp only[Oper.upon]
    refine Calls.mono h fun e w'' he=>?_
    obtain⟨v,rfl,h2⟩:=he
    exact h2
  · exact h.elim
def rV (ops:Array Oper) (d:Tmp):Bool:=(List.range ops.size).all fun j=>aB ops j !=some d
end
section
variable {P:Program} {ops:Array Oper} {Q:Exit→Act→World→Prop}
def bI (ops:Array Oper):Bool:=(List.range ops.size).all (fun i=>match ops[i]? with | some o=>o.after.all fun e=>!Region.binds .any e||decide (e.on < i) | none=>true)&&ops.all (fun o=>o.after.all fun e=>decide (e.on < ops.size))
theorem oU (h:bI ops=true) {listed:Array Bool} (hls:listed.size=ops.size) (hr:Region.ready .any ops listed=[]):∀ n i,i < n→i < ops.size→listed.getD i false=true:=by
  unfold bI at h
  rw[Bool.and_eq_true]at h
  obtain⟨h,-⟩:=h
  intro n
  induction n with
  | zero=>intro i hi;omega
  | succ n ih=>
    intro i hi his
    by_cases hin:i < n
    · exact ih i hin his
    obtain rfl:i=n:=by omega
    cases hl:listed.getD i false with
    | true=>rfl
    | false=>
      exfalso
      have TB:i < listed.size:=by omega
      have hl':listed.getD i true=false:=by simp only[Array.getD,TB,dite_true]at hl⊢;exact hl
      obtain⟨o,ho⟩:∃ o,ops[i]? =some o:=⟨_,Array.getElem?_eq_getElem his⟩
      have he:=List.all_eq_true.1 h i (List.mem_range.2 his)
      rw[ho]at he
      have hm:i∈Region.ready .any ops listed:=by
        unfold Region.ready
        refine List.mem_filter.2 ⟨List.mem_range.2 his,?_⟩
        rw[hl',ho]
        simp only[Bool.not_false,Option.map_some,Option.getD_some,Bool.true_and]
        refine Array.all_eq_true_iff_forall_mem.2 fun e hem=>?_
        have h1:=Array.all_eq_true_iff_forall_mem.1 he e hem
        cases hbe:Region.binds .any e with
        | false=>rfl
        | true=>
          rw[hbe]at h1
          simp only[Bool.not_true,Bool.false_or,decide_eq_true_eq]at h1
          rw[ih e.on (by omega) (by omega),Bool.or_true]
      rw[hr]at hm
      cases hm
theorem pV (h:bI ops=true):ops.all (fun o=>o.after.all fun e=>decide (e.on < ops.size))=true:=by
  unfold bI at h
  rw[Bool.and_eq_true]at h
  exact h.2
def aJ (listed:Nat→Bool) (i:Nat):Nat→Bool:=fun k=>if k=i then true else listed k
def bQ (vals:Nat→Value) (i:Nat) (v:Value):Nat→Value:=fun k=>if k=i then v else vals k
def Bj (P:Program) (ops:Array Oper) (J:(Nat→Bool)→(Nat→Value)→World→Prop) (a0:Act) (i:Nat) (o:Oper):Prop:=
  ∀ (listed:Nat→Bool) (vals:Nat→Value) (w':World),listed i=false→(∀ j,(bu o).contains j=true→listed j=true)→J listed vals w'→
    (∀ (g:Nat) (b:Bool),o.guard=some (g,b)→∃ b',vals g=.bool b'∧(b'≠b→J (aJ listed i) (bQ vals i undef) w'))∧
    ((∀ (g:Nat) (b:Bool),o.guard=some (g,b)→vals g=.bool b)→
      ∀ (ρ:Operand→Value),(∀ v,ρ (.const v)=v)→(∀ g,ρ (.global g)=.pointer (some ⟨g,0,none⟩))→(∀ f,ρ (.func f)=.func (.func f) #[] #[])→
        (∀ j d,(bu o).contains j=true→aB ops j=some d→ρ (.tmp d)=vals j)→(∀ d,rV ops d=true→ρ (.tmp d)=a0.eval (.tmp d))→
        aO P o ρ w' fun v w''=>J (aJ listed i) (bQ vals i v) w'')
theorem gW {vals vals':Nat→Value} {a:Act}:∀ (n:Nat),(∀ i d,i < n→aB ops i=some d→vals i=vals' i)→ay ops vals (fun _=>true) a n=ay ops vals' (fun _=>true) a n
  | 0,_=>rfl
  | n+1,h=>by
    have ih:=gW (a:=a) n (fun i d hi hd=>h i d (by omega) hd)
    simp only[ay,if_true,ih]
    cases hd:aB ops n with
    | none=>rfl
    | some d=>rw[h n d (by omega) hd]
def EM (P:Program) (ops:Array Oper) (J:(Nat→Bool)→(Nat→Value)→World→Prop) (a0:Act) (i:Nat) (o:Oper):Prop:=
  ∀ (listed:Nat→Bool) (vals:Nat→Value) (w':World),listed i=false→(∀ j,(bu o).contains j=true→listed j=true)→J listed vals w'→
    (∀ (g:Nat) (b:Bool),o.guard=some (g,b)→∃ b',vals g=.bool b'∧(b'≠b→J (aJ listed i) (bQ vals i undef) w'))∧
    ((∀ (g:Nat) (b:Bool),o.guard=some (g,b)→vals g=.bool b)→
      ∀ (a':Act),a'.tmps.size=a0.tmps.size→(∀ j d,(bu o).contains j=true→aB ops j=some d→a'.eval (.tmp d)=vals j)→(∀ d,rV ops d=true→a'.eval (.tmp d)=a0.eval (.tmp d))→
        ∀ (K:Act→World→Prop) (Qp:Exit→Act→World→Prop),(∀ v w'',J (aJ listed i) (bQ vals i v) w''→K (a'.put o.dst v) w'')→o.wp P a' w' K Qp)
theorem Bj.toW {J:(Nat→Bool)→(Nat→Value)→World→Prop} {a0:Act} {i:Nat} {o:Oper} (h:Bj P ops J a0 i o):EM P ops J a0 i o:=by
  intro listed vals w' hl hdp hJ
  obtain⟨h1,h2⟩:=h listed vals w' hl hdp hJ
  refine⟨h1,fun hg a' hs hr hf K Qp hK=>?_⟩
  exact aO.wp ((h2 hg a'.eval (fun _=>rfl) (fun _=>rfl) (fun _=>rfl) hr hf).mono fun v w'' hv=>hK v w'' hv)
theorem vS (hd:bM ops=true) (iR:fU ops=true) (J:(Nat→Bool)→(Nat→Value)→World→Prop) (a0:Act)
    (hsz:(List.range ops.size).all (fun i=>match aB ops i with | some d=>decide (d < a0.tmps.size) | none=>true)=true)
    (jf:∀ (l l':Nat→Bool) (v:Nat→Value) w,(∀ i,i < ops.size→l i=l' i)→J l v w→J l' v w)
    (hstep:∀ i o,ops[i]? =some o→EM P ops J a0 i o)
    (hdone:∀ (vals:Nat→Value) w',J (fun _=>true) vals w'→Q .normal (ay ops vals (fun _=>true) a0 ops.size) w')
    (hon:ops.all (fun o=>o.after.all fun e=>decide (e.on < ops.size))=true)
    (Gv:∀ listed:Array Bool,listed.size=ops.size→Region.ready .any ops listed=[]→∀ i,i < ops.size→listed.getD i false=true):
    ∀ (fuel:Nat) (listed:Array Bool) (vals:Nat→Value) (w:World),listed.size=ops.size→((List.range ops.size).filter fun i=>!listed.getD i true).length≤fuel→J (fun i=>listed.getD i false) vals w→
      wpAny P .any ops Q fuel listed (ay ops vals (fun i=>listed.getD i false) a0 ops.size) w:=by
  intro fuel
  induction fuel with
  | zero=>
    intro listed vals w hls hf hJ
    have hdn:∀ i,i < ops.size→listed.getD i false=true:=by
      intro i hi
      cases h:listed.getD i false with
      | true=>rfl
      | false=>
        have hi':i < listed.size:=by omega
        have h2:listed.getD i true=false:=by simp only[Array.getD,hi',dite_true]at h⊢;exact h
        have hm:i∈(List.range ops.size).filter fun i=>!listed.getD i true:=List.mem_filter.2 ⟨List.mem_range.2 hi,by simp[h2]⟩
        have:0 < ((List.range ops.size).filter fun i=>!listed.getD i true).length:=List.length_pos_of_mem hm
        omega
    have hr:Region.ready .any ops listed=[]:=by
      unfold Region.ready
      rw[List.filter_eq_nil_iff]
      intro i hi
      have hi':=List.mem_range.1 hi
      have h1:=hdn i hi'
      have h2:listed.getD i true=true:=by
        have:i < listed.size:=by omega
        simp only[Array.getD,this,dite_true]at h1⊢;exact h1
      simp[h2]
    refine⟨hr,?_⟩
    rw[dP (vals':=vals) (listed':=fun _=>true) ops.size (fun i hi=>⟨hdn i hi,fun _=>rfl⟩)]
    exact hdone vals w (jf _ _ _ _ (fun i hi=>hdn i hi) hJ)
  | succ fuel ih=>
    intro listed vals w hls hf hJ
    refine⟨fun hr=>?_,fun i hi=>?_⟩
    · have hdn:=Gv listed hls hr
      rw[dP (vals':=vals) (listed':=fun _=>true) ops.size (fun i hi=>⟨hdn i hi,fun _=>rfl⟩)]
      exact hdone vals w (jf _ _ _ _ (fun i hi=>hdn i hi) hJ)
    · unfold Region.ready at hi
      rw[List.mem_filter,List.mem_range]at hi
      obtain⟨his,hi2⟩:=hi
      simp only[Bool.and_eq_true,Bool.not_eq_true']at hi2
      obtain⟨hil,hi3⟩:=hi2
      obtain⟨o,ho⟩:∃ o,ops[i]? =some o:=⟨_,Array.getElem?_eq_getElem his⟩
      rw[ho]at hi3
      simp only[Option.map_some,Option.getD_some]at hi3
      have GN:listed.getD i false=false:=by
        have:i < listed.size:=by omega
        simp only[Array.getD,this,dite_true]at hil⊢;exact hil
      have Nk:=Array.all_eq_true_iff_forall_mem.1 hon o (Array.mem_of_getElem? ho)
      have Eg:∀ j,(bu o).contains j=true→listed.getD j false=true∧j < ops.size:=by
        intro j hj
        unfold bu at hj
        rw[List.contains_iff_mem,List.mem_map]at hj
        obtain⟨e,he,rfl⟩:=hj
        obtain⟨he1,he2⟩:=List.mem_filter.1 he
        have h1:=Array.all_eq_true_iff_forall_mem.1 hi3 e (by simpa using he1)
        rw[he2]at h1
        simp only[Bool.not_true,Bool.false_or]at h1
        have:=Array.all_eq_true_iff_forall_mem.1 Nk e (by simpa using he1)
        exact⟨h1,by simpa using this⟩
      have hreads:∀ j d,(bu o).contains j=true→aB ops j=some d→(ay ops vals (fun i=>listed.getD i false) a0 ops.size).eval (.tmp d)=vals j:=by
        intro j d hj hjd
        obtain⟨h1,h2⟩:=Eg j hj
        have hds:d < a0.tmps.size:=by
          have:=List.all_eq_true.1 hsz j (List.mem_range.2 h2)
          rw[hjd]at this
          simpa using this
        exact dn hd hjd h1 hds ops.size h2 (Nat.le_refl _)
      obtain⟨hs1,hs2⟩:=hstep i o ho _ vals w GN (fun j hj=>(Eg j hj).1) hJ
      have VP:∀ g b,o.guard=some (g,b)→∀ b',vals g=.bool b'→yielded ops (ay ops vals (fun i=>listed.getD i false) a0 ops.size).tmps g=some b':=by
        intro g b hg b' hv
        have h1:=Array.all_eq_true_iff_forall_mem.1 iR o (Array.mem_of_getElem? ho)
        rw[hg]at h1
        simp only[Bool.and_eq_true,decide_eq_true_eq,Option.isSome_iff_exists]at h1
        obtain⟨⟨h3,hgs⟩,d,hd'⟩:=h1
        have hds:d < a0.tmps.size:=by
          have:=List.all_eq_true.1 hsz g (List.mem_range.2 hgs)
          rw[hd']at this
          simpa using this
        exact mX hd' (by rw[dm];exact hds) ((hreads g d h3 hd').trans hv)
      have hnext:∀ v w'',J (aJ (fun i=>listed.getD i false) i) (bQ vals i v) w''→
          wpAny P .any ops Q fuel (listed.setIfInBounds i true) ((ay ops vals (fun i=>listed.getD i false) a0 ops.size).put o.dst v) w'':=by
        intro v w'' hJ'
        have hdo:o.dst=aB ops i:=by unfold aB;rw[ho];rfl
        rw[hdo,qi hd GN ops.size his (Nat.le_refl _)]
        have hcg:ay ops (fun k=>if k=i then v else vals k) (fun k=>if k=i then true else listed.getD k false) a0 ops.size=ay ops (fun k=>if k=i then v else vals k) (fun k=>(listed.setIfInBounds i true).getD k false) a0 ops.size:=
          dP ops.size (fun k hk=>⟨by rw[iF (by omega)],fun _=>rfl⟩)
        rw[hcg]
        refine ih (listed.setIfInBounds i true) _ w'' (by simpa using hls) ?_ ?_
        · have hsub:((List.range ops.size).filter fun k=>!(listed.setIfInBounds i true).getD k true).length < ((List.range ops.size).filter fun k=>!listed.getD k true).length:=by
            have e1:((List.range ops.size).filter fun k=>!(listed.setIfInBounds i true).getD k true)=((List.range ops.size).filter fun k=>!listed.getD k true).filter fun k=>decide (k≠i):=by
              rw[List.filter_filter]
              apply List.filter_congr
              intro k hk
              rw[iF (by omega)]
              by_cases hki:k=i <;> simp[hki]
            rw[e1]
            refine List.length_filter_lt_length_iff_exists.2 ⟨i,List.mem_filter.2 ⟨List.mem_range.2 his,by simp[hil]⟩,by simp⟩
          omega
        · refine jf _ _ _ _ (fun k hk=>?_) hJ'
          rw[iF (by omega)]
          rfl
      unfold wpOp
      simp only[ho]
      split
      · rename_i hw
        left
        refine hs2 ?_ _ (dm _) hreads (fun d uw=>?_) _ _ hnext
        · intro g b hg
          obtain⟨b',hv,-⟩:=hs1 g b hg
          have:=VP g b hg b' hv
          unfold Region.wanted at hw
          rw[hg]at hw
          simp only[this]at hw
          rw[hv]
          simp at hw
          rw[hw]
        · refine eF ops.size (fun j hj=>?_)
          unfold rV at uw
          have:=List.all_eq_true.1 uw j (List.mem_range.2 hj)
          simpa using this
      · rename_i hw
        refine hnext _ _ ?_
        unfold Region.wanted at hw
        cases hg:o.guard with
        | none=>rw[hg]at hw;simp at hw
        | some gb=>
          obtain⟨g,b⟩:=gb
          obtain⟨b',hv,hu⟩:=hs1 g b hg
          rw[hg]at hw
          simp only[VP g b hg b' hv]at hw
          exact hu (by simpa using hw)
theorem ng {F:Nat→Oper→Prop} {id:Nat} {a:Act} {w:World} (J:(Nat→Bool)→(Nat→Value)→World→Prop) (hm:P.follows .mixedOrders=true) (hd:bM ops=true) (hb:bI ops=true) (iR:fU ops=true)
    (hsz:(List.range ops.size).all (fun i=>match aB ops i with | some d=>decide (d < a.tmps.size) | none=>true)=true)
    (jf:∀ (l l':Nat→Bool) (v:Nat→Value) w,(∀ i,i < ops.size→l i=l' i)→J l v w→J l' v w)
    (h0:J (fun _=>false) (fun _=>undef) w.drew)
    (hto:∀ i o,F i o→EM P ops J a i o)
    (hstep:bZ F 0 ops.toList)
    (hdone:∀ (vals:Nat→Value) w',J (fun _=>true) vals w'→Q .normal (ay ops vals (fun _=>true) a ops.size) w'):
    (Code.region id ops true).wp P Q a w:=by
  refine wp_region_any hm ?_
  have hf:∀ n,(Array.replicate ops.size false).getD n false=false:=by
    intro n
    by_cases h:n < ops.size <;> simp[Array.getD,h]
  have hnone:ay ops (fun _=>undef) (fun i=>(Array.replicate ops.size false).getD i false) a ops.size=a:=by
    have:∀ n,ay ops (fun _=>undef) (fun i=>(Array.replicate ops.size false).getD i false) a n=a:=by
      intro n
      induction n with
      | zero=>rfl
      | succ n ih=>
        have hfn:=hf n
        simp only[ay,hfn,Bool.false_eq_true,if_false];exact ih
    exact this _
  have:=vS hd iR J a hsz jf (fun i o jS=>by have:=bZ.get hstep i o (by simpa using jS);rw[Nat.zero_add]at this;exact hto i o this) hdone (pV hb)
    (fun listed' h1 h2 i hi=>oU hb h1 h2 (i+1) i (by omega) hi) ops.size (Array.replicate ops.size false) (fun _=>undef) w.drew (by simp) (by
    have:=List.length_filter_le (fun i=>!(Array.replicate ops.size false).getD i true) (List.range ops.size)
    simpa using this) (jf _ _ _ _ (fun i _=>(hf i).symm) h0)
  rw[hnone]at this
  exact this
theorem ni {id:Nat} {a:Act} {aF:(Nat→Value)→Act} {w:World} (J:(Nat→Bool)→(Nat→Value)→World→Prop) (hF:∀ vals,ay ops vals (fun _=>true) a ops.size=aF vals) (hm:P.follows .mixedOrders=true) (hd:bM ops=true) (hb:bI ops=true) (iR:fU ops=true)
    (hsz:(List.range ops.size).all (fun i=>match aB ops i with | some d=>decide (d < a.tmps.size) | none=>true)=true)
    (jf:∀ (l l':Nat→Bool) (v:Nat→Value) w,(∀ i,i < ops.size→l i=l' i)→J l v w→J l' v w)
    (h0:J (fun _=>false) (fun _=>undef) w.drew)
    (hstep:bZ (fun i o=>Bj P ops J a i o) 0 ops.toList)
    (hdone:∀ (vals:Nat→Value) w',J (fun _=>true) vals w'→Q .normal (aF vals) w'):
    (Code.region id ops true).wp P Q a w:=
  ng J hm hd hb iR hsz jf h0 (fun _ _ h=>h.toW) hstep fun vals w' h=>by rw[hF];exact hdone vals w' h
theorem iI {id:Nat} {a aF:Act} {w:World} (vals:List Value) (J:(Nat→Bool)→World→Prop) (hF:ay ops (fun i=>vals.getD i undef) (fun _=>true) a ops.size=aF) (hm:P.follows .mixedOrders=true) (hd:bM ops=true) (hb:bI ops=true) (kJ:wJ ops=true) (hsel:Region.noSelect ops=true) (iR:fU ops=true)
    (hgv:ops.all (fun o=>match o.guard with | some (g,_)=>(match vals.getD g undef with | .bool _=>true | _=>false) | none=>true)=true)
    (hsz:(List.range ops.size).all (fun i=>match aB ops i with | some d=>decide (d < a.tmps.size) | none=>true)=true)
    (jf:∀ (l l':Nat→Bool) w,(∀ i,i < ops.size→l i=l' i)→J l w→J l' w)
    (h0:J (fun _=>false) w.drew)
    (hstep:bZ (fun i o=>∀ l w',l i=false→(∀ j,(bu o).contains j=true→l j=true)→J l w'→
      if Region.wanted o (yielded ops aF.tmps)=true then zY P o aF (vals.getD i undef) (J (aJ l i)) w' else vals.getD i undef=undef∧J (aJ l i) w') 0 ops.toList)
    (hdone:∀ w',J (fun _=>true) w'→Q .normal aF w'):
    (Code.region id ops true).wp P Q a w:=by
  subst hF
  refine ng (F:=fun i o=>ops[i]? =some o∧∀ l w',l i=false→(∀ j,(bu o).contains j=true→l j=true)→J l w'→
      if Region.wanted o (yielded ops (ay ops (fun i=>vals.getD i undef) (fun _=>true) a ops.size).tmps)=true then zY P o (ay ops (fun i=>vals.getD i undef) (fun _=>true) a ops.size) (vals.getD i undef) (J (aJ l i)) w' else vals.getD i undef=undef∧J (aJ l i) w')
    (fun l v w=>J l w∧∀ j d,l j=true→aB ops j=some d→v j=vals.getD j undef) hm hd hb iR hsz (fun l l' v w h hJ=>⟨jf l l' w h hJ.1,fun j d hj hjd=>hJ.2 j d ?_ hjd⟩) ⟨h0,fun j d h=>by cases h⟩ ?_ ?_ ?_
  · have hjs:j < ops.size:=by
      rcases Nat.lt_or_ge j ops.size with h | h
      · exact h
      · unfold aB at hjd;rw[Array.getElem?_eq_none h]at hjd;simp at hjd
    rw[h j hjs];exact hj
  · rintro i o ⟨jS,hst⟩ listed v w' hl hdp ⟨hJ,hv⟩
    have his:i < ops.size:=(Array.getElem?_eq_some_iff.1 jS).1
    have hdo:aB ops i=o.dst:=by unfold aB;rw[jS];rfl
    have nO:=List.all_eq_true.1 kJ i (List.mem_range.2 his)
    rw[jS]at nO
    simp only at nO
    have hst:=hst listed w' hl hdp hJ
    have hdone:∀ x,(o.dst=none∨x=vals.getD i undef)→∀ j d,aJ listed i j=true→aB ops j=some d→bQ v i x j=vals.getD j undef:=by
      intro x hx j d hj hjd
      unfold aJ at hj
      unfold bQ
      by_cases hji:j=i
      · subst hji
        rw[if_pos rfl]
        rcases hx with hx | hx
        · rw[hdo,hx]at hjd;cases hjd
        · exact hx
      · rw[if_neg hji]at hj⊢
        exact hv j d hj hjd
    have hgb:∀ g b,o.guard=some (g,b)→∃ b' d,vals.getD g undef=.bool b'∧aB ops g=some d∧d < a.tmps.size∧(bu o).contains g=true:=by
      intro g b hg
      have h1:=Array.all_eq_true_iff_forall_mem.1 iR o (Array.mem_of_getElem? jS)
      have h2:=Array.all_eq_true_iff_forall_mem.1 hgv o (Array.mem_of_getElem? jS)
      rw[hg]at h1 h2
      simp only[Bool.and_eq_true,decide_eq_true_eq,Option.isSome_iff_exists]at h1
      obtain⟨⟨h3,hgs⟩,d,hd'⟩:=h1
      have hds:d < a.tmps.size:=by
        have:=List.all_eq_true.1 hsz g (List.mem_range.2 hgs)
        rw[hd']at this
        simpa using this
      simp only at h2
      split at h2
      · rename_i b' hb'
        exact⟨b',d,hb',hd',hds,h3⟩
      · cases h2
    have hgs:∀ g,(∃ b,o.guard=some (g,b))→g < ops.size:=by
      rintro g ⟨b,hg⟩
      have h1:=Array.all_eq_true_iff_forall_mem.1 iR o (Array.mem_of_getElem? jS)
      rw[hg]at h1
      simp only[Bool.and_eq_true,decide_eq_true_eq]at h1
      exact h1.1.2
    have hwv:Region.wanted o (yielded ops (ay ops (fun i=>vals.getD i undef) (fun _=>true) a ops.size).tmps)=true↔∀ g b,o.guard=some (g,b)→vals.getD g undef=.bool b:=by
      unfold Region.wanted
      cases hg:o.guard with
      | none=>simp
      | some gb=>
        obtain⟨g,b⟩:=gb
        obtain⟨b',d,h1,h2,h3,h4⟩:=hgb g b hg
        have hy:=mX (a':=ay ops (fun i=>vals.getD i undef) (fun _=>true) a ops.size) (b:=b') h2 (by rw[dm];exact h3) ((dn hd h2 rfl h3 ops.size (hgs g ⟨b,hg⟩) (Nat.le_refl _)).trans h1)
        simp only[hy]
        constructor
        · intro h g' b2 h'
          obtain⟨rfl,rfl⟩:=Prod.mk.inj (Option.some.inj h')
          rw[h1]
          simp at h
          rw[h]
        · intro h
          have:=(h g b rfl).symm.trans h1
          injection this with this
          simp[this]
    refine⟨fun g b hg=>?_,fun hgt a' hs hr hf K Qp hK=>?_⟩
    · obtain⟨b',d,h1,h2,h3,h4⟩:=hgb g b hg
      refine⟨b',(hv g d (hdp g h4) h2).trans h1,fun hne=>?_⟩
      have hwf:¬ Region.wanted o (yielded ops (ay ops (fun i=>vals.getD i undef) (fun _=>true) a ops.size).tmps)=true:=by
        rw[hwv]
        intro h
        have:=h1.symm.trans (h g b hg)
        injection this with this
        exact hne this
      rw[if_neg hwf]at hst
      exact⟨hst.2,hdone undef (Or.inr hst.1.symm)⟩
    · have hwt:Region.wanted o (yielded ops (ay ops (fun i=>vals.getD i undef) (fun _=>true) a ops.size).tmps)=true:=by
        rw[hwv]
        intro g b hg
        obtain⟨b',d,h1,h2,h3,h4⟩:=hgb g b hg
        rw[←hv g d (hdp g h4) h2]
        exact hgt g b hg
      rw[if_pos hwt]at hst
      have look:∀ t,t∈o.looksAt ops→a'.eval (.tmp t)=(ay ops (fun i=>vals.getD i undef) (fun _=>true) a ops.size).eval (.tmp t):=by
        intro t ht
        have h1:=List.all_eq_true.1 nO t ht
        by_cases hx:∃ j,j < ops.size∧aB ops j=some t
        · obtain⟨j,hj,hjt⟩:=hx
          have h2:=List.all_eq_true.1 h1 j (List.mem_range.2 hj)
          rw[hjt]at h2
          simp only[bne_self_eq_false,Bool.false_or]at h2
          have hjd:(bu o).contains j=true:=by
            obtain⟨e,he,hbe⟩:=List.any_eq_true.1 h2
            simp only[Bool.and_eq_true,beq_iff_eq]at hbe
            unfold bu
            rw[List.contains_iff_mem,List.mem_map]
            exact⟨e,List.mem_filter.2 ⟨he,hbe.1⟩,hbe.2⟩
          have hts:t < a.tmps.size:=by
            have:=List.all_eq_true.1 hsz j (List.mem_range.2 hj)
            rw[hjt]at this
            simpa using this
          rw[hr j t hjd hjt,hv j t (hdp j hjd) hjt,dn hd hjt rfl hts ops.size hj (Nat.le_refl _)]
        · have hall:rV ops t=true:=by
            refine List.all_eq_true.2 fun j hj=>?_
            rw[bne_iff_ne]
            exact fun e=>hx ⟨j,List.mem_range.1 hj,e⟩
          rw[hf t hall,eF ops.size (fun j hj e=>hx ⟨j,hj,e⟩)]
      have yT:execOp a'.eval o=execOp (ay ops (fun i=>vals.getD i undef) (fun _=>true) a ops.size).eval o:=by
        refine execOp_congr o (Region.noSelect_spec hsel i o · · jS) fun x hx=>?_
        cases x with
        | tmp t=>exact look t (List.mem_append_left _ (List.mem_filterMap.2 ⟨.tmp t,by simpa using hx,rfl⟩))
        | const c=>rfl
        | global g=>rfl
        | func f=>rfl
      unfold Oper.wp
      rw[yT]
      refine nC (aL:=ay ops (fun i=>vals.getD i undef) (fun _=>true) a ops.size) (R:=fun x w''=>(o.dst=none∨x=vals.getD i undef)∧J (aJ listed i) w'') ?_ ?_ fun x w'' h=>hK _ _ ⟨h.2,hdone x h.1⟩
      · intro d hdd
        rw[dm]
        have:=List.all_eq_true.1 hsz i (List.mem_range.2 his)
        rw[hdo,hdd]at this
        simpa using this
      · exact hst _ _ fun w'' h=>⟨_,rfl,Or.inr rfl,h⟩
  · have:∀ (l:List Oper) (n:Nat),(∀ k o,l[k]? =some o→ops[n+k]? =some o)→bZ (fun i o=>∀ l w',l i=false→(∀ j,(bu o).contains j=true→l j=true)→J l w'→
        if Region.wanted o (yielded ops (ay ops (fun i=>vals.getD i undef) (fun _=>true) a ops.size).tmps)=true then zY P o (ay ops (fun i=>vals.getD i undef) (fun _=>true) a ops.size) (vals.getD i undef) (J (aJ l i)) w' else vals.getD i undef=undef∧J (aJ l i) w') n l→bZ (fun i o=>ops[i]? =some o∧∀ l w',l i=false→(∀ j,(bu o).contains j=true→l j=true)→J l w'→
        if Region.wanted o (yielded ops (ay ops (fun i=>vals.getD i undef) (fun _=>true) a ops.size).tmps)=true then zY P o (ay ops (fun i=>vals.getD i undef) (fun _=>true) a ops.size) (vals.getD i undef) (J (aJ l i)) w' else vals.getD i undef=undef∧J (aJ l i) w') n l:=by
      intro l
      induction l with
      | nil=>intro n _ _;trivial
      | cons x l ih=>
        intro n hk h
        refine⟨⟨by simpa using hk 0 x rfl,h.1⟩,ih (n+1) (fun k o ho=>?_) h.2⟩
        have:=hk (k+1) o (by simpa using ho)
        have e:n+1+k=n+(k+1):=by omega
        rw[e];exact this
    exact this ops.toList 0 (fun k o h=>by simpa using h) hstep
  · intro v w' h
    rw[gW (vals':=fun i=>vals.getD i undef) ops.size (fun i d hi hid=>h.2 i d rfl hid)]
    exact hdone w' h.1
end
section
variable {P:Program} {ops:Array Oper} {Q:Exit→Act→World→Prop}
def WF (s:Bool) (x:Value):Value:=match s with | true=>undef | false=>x
def WT (s:Bool) (x:Value):Value:=match s with | true=>x | false=>undef
def UW (K:Nat→Value) (i:Nat) (o:Oper):Prop:=∀ (g:Nat) (b:Bool),o.guard=some (g,b)→∃ b',K g=.bool b'∧(b'≠b→K i=undef)
def sD (P:Program) (ops:Array Oper) (K:Nat→Value) (G:World→Prop) (a0:Act) (i:Nat) (o:Oper):Prop:=
  UW K i o∧∀ w',G w'→(∀ (g:Nat) (b:Bool),o.guard=some (g,b)→K g=.bool b)→
    ∀ (ρ:Operand→Value),(∀ v,ρ (.const v)=v)→(∀ g,ρ (.global g)=.pointer (some ⟨g,0,none⟩))→(∀ f,ρ (.func f)=.func (.func f) #[] #[])→
      (∀ j d,(bu o).contains j=true→aB ops j=some d→ρ (.tmp d)=K j)→(∀ d,rV ops d=true→ρ (.tmp d)=a0.eval (.tmp d))→
      aO P o ρ w' fun v w''=>(o.dst=none∨v=K i)∧G w''
theorem aZ {id:Nat} {a aF:Act} {w:World} (K:Nat→Value) (G:World→Prop) (hF:ay ops K (fun _=>true) a ops.size=aF) (hm:P.follows .mixedOrders=true) (hd:bM ops=true) (hb:bI ops=true) (iR:fU ops=true)
    (hsz:(List.range ops.size).all (fun i=>match aB ops i with | some d=>decide (d < a.tmps.size) | none=>true)=true)
    (h0:G w.drew)
    (hstep:bZ (fun i o=>sD P ops K G a i o) 0 ops.toList)
    (hdone:∀ w',G w'→Q .normal aF w'):
    (Code.region id ops true).wp P Q a w:=by
  subst hF
  have hall:∀ (l:List Oper) (n:Nat),(∀ k o,l[k]? =some o→ops[n+k]? =some o)→bZ (fun i o=>sD P ops K G a i o) n l→bZ (fun i o=>ops[i]? =some o∧sD P ops K G a i o) n l:=by
    intro l
    induction l with
    | nil=>intro n _ _;trivial
    | cons x l ih=>
      intro n hk h
      refine⟨⟨by simpa using hk 0 x rfl,h.1⟩,ih (n+1) (fun k o ho=>?_) h.2⟩
      have:=hk (k+1) o (by simpa using ho)
      have e:n+1+k=n+(k+1):=by omega
      rw[e];exact this
  refine ng (F:=fun i o=>ops[i]? =some o∧sD P ops K G a i o) (fun l v w=>G w∧∀ j d,l j=true→aB ops j=some d→v j=K j) hm hd hb iR hsz
    (fun l l' v w h hJ=>⟨hJ.1,fun j d hj hjd=>hJ.2 j d ?_ hjd⟩) ⟨h0,fun j d h=>by cases h⟩ ?_ (hall ops.toList 0 (fun k o h=>by simpa using h) hstep) ?_
  · have hjs:j < ops.size:=by
      rcases Nat.lt_or_ge j ops.size with h | h
      · exact h
      · unfold aB at hjd;rw[Array.getElem?_eq_none h]at hjd;simp at hjd
    rw[h j hjs];exact hj
  · rintro i o ⟨jS,hgk,hst⟩
    refine Bj.toW ?_
    intro l v w' hl hdp hJ
    obtain⟨hG,hv⟩:=hJ
    have hdo:aB ops i=o.dst:=by unfold aB;rw[jS];rfl
    have hnx:∀ x,(o.dst=none∨x=K i)→∀ j d,aJ l i j=true→aB ops j=some d→bQ v i x j=K j:=by
      intro x hx j d hj hjd
      unfold aJ at hj
      unfold bQ
      by_cases hji:j=i
      · subst hji
        rw[if_pos rfl]
        rcases hx with hx | hx
        · rw[hdo,hx]at hjd;cases hjd
        · exact hx
      · rw[if_neg hji]at hj⊢
        exact hv j d hj hjd
    have hgv:∀ g b,o.guard=some (g,b)→v g=K g:=by
      intro g b hg
      have h1:=Array.all_eq_true_iff_forall_mem.1 iR o (Array.mem_of_getElem? jS)
      rw[hg]at h1
      simp only[Bool.and_eq_true,decide_eq_true_eq,Option.isSome_iff_exists]at h1
      obtain⟨⟨h3,-⟩,d,hd'⟩:=h1
      exact hv g d (hdp g h3) hd'
    refine⟨fun g b hg=>?_,fun hg ρ h1 h2 h3 h4 h5=>?_⟩
    · obtain⟨b',hb1,hb2⟩:=hgk g b hg
      exact⟨b',(hgv g b hg).trans hb1,fun hne=>⟨hG,hnx undef (Or.inr (hb2 hne).symm)⟩⟩
    · refine(hst w' hG (fun g b h=>(hgv g b h).symm.trans (hg g b h)) ρ h1 h2 h3 (fun j d hj hjd=>?_) h5).mono fun x w'' h=>⟨h.2,hnx x h.1⟩
      rw[h4 j d hj hjd]
      exact hv j d (hdp j hj) hjd
  · intro v w' h
    rw[gW (vals':=K) ops.size (fun i d hi hid=>h.2 i d rfl hid)]
    exact hdone w' h.1
structure fD (W0:World) (b p q:Nat) (x y:Value) (m n:Nat) (l:Nat→Bool) (w':World):Prop where
  ord:l n=true→l m=true
  is:w'=if l n=true then((W0.setCell ⟨b,p,none⟩ x).setCell ⟨b,q,none⟩ y)else if l m=true then W0.setCell ⟨b,p,none⟩ x else W0
variable {W0 w':World} {b p q m n:Nat} {x y:Value} {l:Nat→Bool}
theorem fD.ext {k:Nat} {l':Nat→Bool} (hm:m < k) (hn:n < k) (h:∀ i,i < k→l i=l' i) (H:fD W0 b p q x y m n l w'):fD W0 b p q x y m n l' w' where
  ord h1:=by rw[←h m hm];exact H.ord (by rw[h n hn];exact h1)
  is:=by rw[←h m hm,←h n hn];exact H.is
theorem fD.start:fD W0 b p q x y m n (fun _=>false) W0 where
  ord h:=by cases h
  is:=rfl
theorem fD.other (i:Nat) (h1:i≠m) (h2:i≠n) (H:fD W0 b p q x y m n l w'):fD W0 b p q x y m n (aJ l i) w' where
  ord h:=by
    unfold aJ at h⊢
    rw[if_neg (Ne.symm h1)];rw[if_neg (Ne.symm h2)]at h
    exact H.ord h
  is:=by
    unfold aJ
    rw[if_neg (Ne.symm h1),if_neg (Ne.symm h2)]
    exact H.is
theorem fD.first (hne:m≠n) (hl:l m=false) (H:fD W0 b p q x y m n l w'):w'=W0∧fD W0 b p q x y m n (aJ l m) (W0.setCell ⟨b,p,none⟩ x):=by
  have hn:l n=false:=by
    cases h:l n with
    | false=>rfl
    | true=>rw[H.ord h]at hl;cases hl
  refine⟨by rw[H.is,hl,hn];rfl,?_,?_⟩
  · intro _;unfold aJ;rw[if_pos rfl]
  · unfold aJ
    rw[if_pos rfl,if_neg (Ne.symm hne),hn];rfl
theorem fD.second (hne:m≠n) (hm:l m=true) (hl:l n=false) (H:fD W0 b p q x y m n l w'):w'=W0.setCell ⟨b,p,none⟩ x∧fD W0 b p q x y m n (aJ l n) ((W0.setCell ⟨b,p,none⟩ x).setCell ⟨b,q,none⟩ y):=by
  refine⟨by rw[H.is,hm,hl];rfl,?_,?_⟩
  · intro _;unfold aJ;rw[if_neg hne];exact hm
  · unfold aJ
    rw[if_pos rfl];rfl
theorem fD.done (H:fD W0 b p q x y m n (fun _=>true) w'):w'=((W0.setCell ⟨b,p,none⟩ x).setCell ⟨b,q,none⟩ y):=H.is
end
section
variable {P:Program} {ops:Array Oper} {Q:Exit→Act→World→Prop}
def UU (V:Nat→Value→World→Prop) (i:Nat) (o:Oper):Prop:=∀ (g:Nat) (b:Bool),o.guard=some (g,b)→∃ b',(∀ v w,V g v w→v=.bool b')∧(b'≠b→∀ w,V i undef w)
end
section
variable {P:Program} {ops:Array Oper} {Q:Exit→Act→World→Prop}
end
section
variable {P:Program} {ops:Array Oper} {Q:Exit→Act→World→Prop}
theorem jU {vals:Nat→Value} {listed:Nat→Bool} {a:Act} {d:Tmp}:∀ (n:Nat),(∀ j,j < n→aB ops j=some d→listed j=false)→(ay ops vals listed a n).eval (.tmp d)=a.eval (.tmp d)
  | 0,_=>rfl
  | n+1,h=>by
    simp only[ay]
    split
    · rename_i hl
      rw[nY (fun hd=>by rw[h n (by omega) hd]at hl;cases hl)]
      exact jU n (fun j hj=>h j (by omega))
    · exact jU n (fun j hj=>h j (by omega))
def Om (P:Program) (ops:Array Oper) (J:(Nat→Bool)→(Nat→Value)→World→Prop) (a0:Act) (i:Nat) (o:Oper):Prop:=
  ∀ (listed:Nat→Bool) (vals:Nat→Value) (w':World),listed i=false→(∀ j,(bu o).contains j=true→listed j=true)→J listed vals w'→
    (∀ (g:Nat) (b:Bool),o.guard=some (g,b)→∃ b',vals g=.bool b'∧(b'≠b→J (aJ listed i) (bQ vals i undef) w'))∧
    ((∀ (g:Nat) (b:Bool),o.guard=some (g,b)→vals g=.bool b)→
      ∀ (a':Act),a'.tmps.size=a0.tmps.size→(∀ j d,(bu o).contains j=true→aB ops j=some d→a'.eval (.tmp d)=vals j)→(∀ d,(∀ j,aB ops j=some d→listed j=false)→a'.eval (.tmp d)=a0.eval (.tmp d))→
        ∀ (K:Act→World→Prop) (Qp:Exit→Act→World→Prop),(∀ v w'',J (aJ listed i) (bQ vals i v) w''→K (a'.put o.dst v) w'')→o.wp P a' w' K Qp)
theorem FI (hd:bM ops=true) (iR:fU ops=true) (J:(Nat→Bool)→(Nat→Value)→World→Prop) (a0:Act)
    (hsz:(List.range ops.size).all (fun i=>match aB ops i with | some d=>decide (d < a0.tmps.size) | none=>true)=true)
    (jf:∀ (l l':Nat→Bool) (v:Nat→Value) w,(∀ i,i < ops.size→l i=l' i)→J l v w→J l' v w)
    (hstep:∀ i o,ops[i]? =some o→Om P ops J a0 i o)
    (hdone:∀ (vals:Nat→Value) w',J (fun _=>true) vals w'→Q .normal (ay ops vals (fun _=>true) a0 ops.size) w')
    (hon:ops.all (fun o=>o.after.all fun e=>decide (e.on < ops.size))=true)
    (Gv:∀ listed:Array Bool,listed.size=ops.size→Region.ready .any ops listed=[]→∀ i,i < ops.size→listed.getD i false=true):
    ∀ (fuel:Nat) (listed:Array Bool) (vals:Nat→Value) (w:World),listed.size=ops.size→((List.range ops.size).filter fun i=>!listed.getD i true).length≤fuel→J (fun i=>listed.getD i false) vals w→
      wpAny P .any ops Q fuel listed (ay ops vals (fun i=>listed.getD i false) a0 ops.size) w:=by
  intro fuel
  induction fuel with
  | zero=>
    intro listed vals w hls hf hJ
    have hdn:∀ i,i < ops.size→listed.getD i false=true:=by
      intro i hi
      cases h:listed.getD i false with
      | true=>rfl
      | false=>
        have hi':i < listed.size:=by omega
        have h2:listed.getD i true=false:=by simp only[Array.getD,hi',dite_true]at h⊢;exact h
        have hm:i∈(List.range ops.size).filter fun i=>!listed.getD i true:=List.mem_filter.2 ⟨List.mem_range.2 hi,by simp[h2]⟩
        have:0 < ((List.range ops.size).filter fun i=>!listed.getD i true).length:=List.length_pos_of_mem hm
        omega
    have hr:Region.ready .any ops listed=[]:=by
      unfold Region.ready
      rw[List.filter_eq_nil_iff]
      intro i hi
      have hi':=List.mem_range.1 hi
      have h1:=hdn i hi'
      have h2:listed.getD i true=true:=by
        have:i < listed.size:=by omega
        simp only[Array.getD,this,dite_true]at h1⊢;exact h1
      simp[h2]
    refine⟨hr,?_⟩
    rw[dP (vals':=vals) (listed':=fun _=>true) ops.size (fun i hi=>⟨hdn i hi,fun _=>rfl⟩)]
    exact hdone vals w (jf _ _ _ _ (fun i hi=>hdn i hi) hJ)
  | succ fuel ih=>
    intro listed vals w hls hf hJ
    refine⟨fun hr=>?_,fun i hi=>?_⟩
    · have hdn:=Gv listed hls hr
      rw[dP (vals':=vals) (listed':=fun _=>true) ops.size (fun i hi=>⟨hdn i hi,fun _=>rfl⟩)]
      exact hdone vals w (jf _ _ _ _ (fun i hi=>hdn i hi) hJ)
    · unfold Region.ready at hi
      rw[List.mem_filter,List.mem_range]at hi
      obtain⟨his,hi2⟩:=hi
      simp only[Bool.and_eq_true,Bool.not_eq_true']at hi2
      obtain⟨hil,hi3⟩:=hi2
      obtain⟨o,ho⟩:∃ o,ops[i]? =some o:=⟨_,Array.getElem?_eq_getElem his⟩
      rw[ho]at hi3
      simp only[Option.map_some,Option.getD_some]at hi3
      have GN:listed.getD i false=false:=by
        have:i < listed.size:=by omega
        simp only[Array.getD,this,dite_true]at hil⊢;exact hil
      have Nk:=Array.all_eq_true_iff_forall_mem.1 hon o (Array.mem_of_getElem? ho)
      have Eg:∀ j,(bu o).contains j=true→listed.getD j false=true∧j < ops.size:=by
        intro j hj
        unfold bu at hj
        rw[List.contains_iff_mem,List.mem_map]at hj
        obtain⟨e,he,rfl⟩:=hj
        obtain⟨he1,he2⟩:=List.mem_filter.1 he
        have h1:=Array.all_eq_true_iff_forall_mem.1 hi3 e (by simpa using he1)
        rw[he2]at h1
        simp only[Bool.not_true,Bool.false_or]at h1
        have:=Array.all_eq_true_iff_forall_mem.1 Nk e (by simpa using he1)
        exact⟨h1,by simpa using this⟩
      have hreads:∀ j d,(bu o).contains j=true→aB ops j=some d→(ay ops vals (fun i=>listed.getD i false) a0 ops.size).eval (.tmp d)=vals j:=by
        intro j d hj hjd
        obtain⟨h1,h2⟩:=Eg j hj
        have hds:d < a0.tmps.size:=by
          have:=List.all_eq_true.1 hsz j (List.mem_range.2 h2)
          rw[hjd]at this
          simpa using this
        exact dn hd hjd h1 hds ops.size h2 (Nat.le_refl _)
      obtain⟨hs1,hs2⟩:=hstep i o ho _ vals w GN (fun j hj=>(Eg j hj).1) hJ
      have VP:∀ g b,o.guard=some (g,b)→∀ b',vals g=.bool b'→yielded ops (ay ops vals (fun i=>listed.getD i false) a0 ops.size).tmps g=some b':=by
        intro g b hg b' hv
        have h1:=Array.all_eq_true_iff_forall_mem.1 iR o (Array.mem_of_getElem? ho)
        rw[hg]at h1
        simp only[Bool.and_eq_true,decide_eq_true_eq,Option.isSome_iff_exists]at h1
        obtain⟨⟨h3,hgs⟩,d,hd'⟩:=h1
        have hds:d < a0.tmps.size:=by
          have:=List.all_eq_true.1 hsz g (List.mem_range.2 hgs)
          rw[hd']at this
          simpa using this
        exact mX hd' (by rw[dm];exact hds) ((hreads g d h3 hd').trans hv)
      have hnext:∀ v w'',J (aJ (fun i=>listed.getD i false) i) (bQ vals i v) w''→
          wpAny P .any ops Q fuel (listed.setIfInBounds i true) ((ay ops vals (fun i=>listed.getD i false) a0 ops.size).put o.dst v) w'':=by
        intro v w'' hJ'
        have hdo:o.dst=aB ops i:=by unfold aB;rw[ho];rfl
        rw[hdo,qi hd GN ops.size his (Nat.le_refl _)]
        have hcg:ay ops (fun k=>if k=i then v else vals k) (fun k=>if k=i then true else listed.getD k false) a0 ops.size=ay ops (fun k=>if k=i then v else vals k) (fun k=>(listed.setIfInBounds i true).getD k false) a0 ops.size:=
          dP ops.size (fun k hk=>⟨by rw[iF (by omega)],fun _=>rfl⟩)
        rw[hcg]
        refine ih (listed.setIfInBounds i true) _ w'' (by simpa using hls) ?_ ?_
        · have hsub:((List.range ops.size).filter fun k=>!(listed.setIfInBounds i true).getD k true).length < ((List.range ops.size).filter fun k=>!listed.getD k true).length:=by
            have e1:((List.range ops.size).filter fun k=>!(listed.setIfInBounds i true).getD k true)=((List.range ops.size).filter fun k=>!listed.getD k true).filter fun k=>decide (k≠i):=by
              rw[List.filter_filter]
              apply List.filter_congr
              intro k hk
              rw[iF (by omega)]
              by_cases hki:k=i <;> simp[hki]
            rw[e1]
            refine List.length_filter_lt_length_iff_exists.2 ⟨i,List.mem_filter.2 ⟨List.mem_range.2 his,by simp[hil]⟩,by simp⟩
          omega
        · refine jf _ _ _ _ (fun k hk=>?_) hJ'
          rw[iF (by omega)]
          rfl
      unfold wpOp
      simp only[ho]
      split
      · rename_i hw
        left
        refine hs2 ?_ _ (dm _) hreads (fun d uw=>?_) _ _ hnext
        · intro g b hg
          obtain⟨b',hv,-⟩:=hs1 g b hg
          have:=VP g b hg b' hv
          unfold Region.wanted at hw
          rw[hg]at hw
          simp only[this]at hw
          rw[hv]
          simp at hw
          rw[hw]
        · exact jU ops.size (fun j _ hjd=>uw j hjd)
      · rename_i hw
        refine hnext _ _ ?_
        unfold Region.wanted at hw
        cases hg:o.guard with
        | none=>rw[hg]at hw;simp at hw
        | some gb=>
          obtain⟨g,b⟩:=gb
          obtain⟨b',hv,hu⟩:=hs1 g b hg
          rw[hg]at hw
          simp only[VP g b hg b' hv]at hw
          exact hu (by simpa using hw)
theorem xq {F:Nat→Oper→Prop} {id:Nat} {a:Act} {w:World} (J:(Nat→Bool)→(Nat→Value)→World→Prop) (hm:P.follows .mixedOrders=true) (hd:bM ops=true) (hb:bI ops=true) (iR:fU ops=true)
    (hsz:(List.range ops.size).all (fun i=>match aB ops i with | some d=>decide (d < a.tmps.size) | none=>true)=true)
    (jf:∀ (l l':Nat→Bool) (v:Nat→Value) w,(∀ i,i < ops.size→l i=l' i)→J l v w→J l' v w)
    (h0:J (fun _=>false) (fun _=>undef) w.drew)
    (hto:∀ i o,F i o→Om P ops J a i o)
    (hstep:bZ F 0 ops.toList)
    (hdone:∀ (vals:Nat→Value) w',J (fun _=>true) vals w'→Q .normal (ay ops vals (fun _=>true) a ops.size) w'):
    (Code.region id ops true).wp P Q a w:=by
  refine wp_region_any hm ?_
  have hf:∀ n,(Array.replicate ops.size false).getD n false=false:=by
    intro n
    by_cases h:n < ops.size <;> simp[Array.getD,h]
  have hnone:ay ops (fun _=>undef) (fun i=>(Array.replicate ops.size false).getD i false) a ops.size=a:=by
    have:∀ n,ay ops (fun _=>undef) (fun i=>(Array.replicate ops.size false).getD i false) a n=a:=by
      intro n
      induction n with
      | zero=>rfl
      | succ n ih=>
        have hfn:=hf n
        simp only[ay,hfn,Bool.false_eq_true,if_false];exact ih
    exact this _
  have:=FI hd iR J a hsz jf (fun i o jS=>by have:=bZ.get hstep i o (by simpa using jS);rw[Nat.zero_add]at this;exact hto i o this) hdone (pV hb)
    (fun listed' h1 h2 i hi=>oU hb h1 h2 (i+1) i (by omega) hi) ops.size (Array.replicate ops.size false) (fun _=>undef) w.drew (by simp) (by
    have:=List.length_filter_le (fun i=>!(Array.replicate ops.size false).getD i true) (List.range ops.size)
    simpa using this) (jf _ _ _ _ (fun i _=>(hf i).symm) h0)
  rw[hnone]at this
  exact this
end
section
variable {P:Program} {ops:Array Oper} {Q:Exit→Act→World→Prop}
def qw (ops:Array Oper) (i:Nat):List Nat:=match ops[i]? with | some o=>bu o | none=>[]
def BJ (ops:Array Oper):Nat→Nat→Nat→Bool
  | 0,_,_=>false
  | f+1,i,j=>(qw ops i).contains j||(qw ops i).any fun k=>decide (j < k)&&decide (k < i)&&BJ ops f k j
def RV (ops:Array Oper) (N:Nat):Bool:=(List.range ops.size).all fun i=>decide (i < N)||(List.range i).all fun j=>BJ ops (i+1) i j
def Jl (ops:Array Oper) (l:Nat→Bool):Prop:=∀ j,l j=true→∀ k,(qw ops j).contains k=true→l k=true
theorem yl {l:Nat→Bool} (h:Jl ops l):∀ (f i j:Nat),(∀ k,(qw ops i).contains k=true→l k=true)→BJ ops f i j=true→l j=true
  | 0,i,j,_,hr=>by cases hr
  | f+1,i,j,hd,hr=>by
    unfold BJ at hr
    rw[Bool.or_eq_true]at hr
    rcases hr with hr | hr
    · exact hd j hr
    · rw[List.any_eq_true]at hr
      obtain⟨k,hk,hr⟩:=hr
      simp only[Bool.and_eq_true]at hr
      exact yl h f k j (h k (hd k (List.contains_iff_mem.2 hk))) hr.2
def V8 (ops:Array Oper) (N d:Nat):Bool:=(List.range N).all fun j=>decide (aB ops j≠some d)
def Jd (P:Program) (ops:Array Oper) (N:Nat) (V:Nat→Value→World→Prop) (G:World→Prop) (Gr:World→World→Prop) (a0:Act) (i:Nat) (o:Oper):Prop:=
  UU V i o∧∀ w',G w'→(∀ (g:Nat) (b:Bool),o.guard=some (g,b)→∀ v w,V g v w→v=.bool b)→
    ∀ (ρ:Operand→Value),(∀ v,ρ (.const v)=v)→(∀ g,ρ (.global g)=.pointer (some ⟨g,0,none⟩))→(∀ f,ρ (.func f)=.func (.func f) #[] #[])→
      (∀ j d,(bu o).contains j=true→aB ops j=some d→V j (ρ (.tmp d)) w')→(∀ d,V8 ops N d=true→ρ (.tmp d)=a0.eval (.tmp d))→
      aO P o ρ w' fun v w''=>V i v w''∧G w''∧Gr w' w''
def StepT (P:Program) (ops:Array Oper) (S:Nat→(Nat→Value)→World→Prop) (a0:Act) (i:Nat) (o:Oper):Prop:=
  o.guard=none∧∀ (v:Nat→Value) (w':World),S i v w'→
    ∀ (ρ:Operand→Value),(∀ v,ρ (.const v)=v)→(∀ g,ρ (.global g)=.pointer (some ⟨g,0,none⟩))→(∀ f,ρ (.func f)=.func (.func f) #[] #[])→
      (∀ j d,(bu o).contains j=true→aB ops j=some d→ρ (.tmp d)=v j)→(∀ d,V8 ops i d=true→rV ops d=true→ρ (.tmp d)=a0.eval (.tmp d))→
      aO P o ρ w' fun x w''=>S (i+1) (bQ v i x) w''
def Ru (ops:Array Oper) (N:Nat) (V:Nat→Value→World→Prop) (G:World→Prop) (S:Nat→(Nat→Value)→World→Prop) (l:Nat→Bool) (v:Nat→Value) (w:World):Prop:=
  (∀ j,j < ops.size→l j=true→∀ k,(qw ops j).contains k=true→l k=true)∧
  (((∀ i,N≤i→i < ops.size→l i=false)∧G w∧∀ j,j < N→l j=true→V j (v j) w)∨
   ∃ s,N < s∧s≤ops.size∧(∀ i,i < s→l i=true)∧(∀ i,s≤i→i < ops.size→l i=false)∧S s v w)
theorem xX {id:Nat} {a:Act} {aF:(Nat→Value)→Act} {w:World} (N:Nat) (V:Nat→Value→World→Prop) (G:World→Prop) (Gr:World→World→Prop) (S:Nat→(Nat→Value)→World→Prop)
    (hF:∀ vals,ay ops vals (fun _=>true) a ops.size=aF vals) (hm:P.follows .mixedOrders=true) (hd:bM ops=true) (hb:bI ops=true) (iR:fU ops=true)
    (hsz:(List.range ops.size).all (fun i=>match aB ops i with | some d=>decide (d < a.tmps.size) | none=>true)=true)
    (hN:decide (N < ops.size)=true) (htail:RV ops N=true)
    (rM:∀ i v w w',V i v w→Gr w w'→V i v w')
    (h0:G w.drew)
    (hstart:∀ v w',G w'→(∀ j,j < N→V j (v j) w')→S N v w')
    (Nj:bZ (fun i o=>Jd P ops N V G Gr a i o) 0 (ops.toList.take N))
    (Nh:bZ (fun i o=>StepT P ops S a i o) N (ops.toList.drop N))
    (hdone:∀ (vals:Nat→Value) w',S ops.size vals w'→Q .normal (aF vals) w'):
    (Code.region id ops true).wp P Q a w:=by
  have hNs:N < ops.size:=by simpa using hN
  have hall:∀ (l:List Oper) (n:Nat),(∀ k o,l[k]? =some o→(n+k < N→Jd P ops N V G Gr a (n+k) o)∧(N≤n+k→StepT P ops S a (n+k) o))→(∀ k o,l[k]? =some o→ops[n+k]? =some o)→
      bZ (fun i o=>ops[i]? =some o∧(i < N→Jd P ops N V G Gr a i o)∧(N≤i→StepT P ops S a i o)) n l:=by
    intro l
    induction l with
    | nil=>intro n _ _;trivial
    | cons x l ih=>
      intro n h1 h2
      refine⟨⟨by simpa using h2 0 x rfl,by simpa using h1 0 x rfl⟩,ih (n+1) (fun k o ho=>?_) (fun k o ho=>?_)⟩
      · have:=h1 (k+1) o (by simpa using ho)
        rwa [show n+1+k=n+(k+1) by omega]
      · have:=h2 (k+1) o (by simpa using ho)
        rwa [show n+1+k=n+(k+1) by omega]
  have hlt:∀ (i:Nat) (o:Oper),ops[i]? =some o→∀ j,(bu o).contains j=true→j < i:=by
    intro i o jS j hj
    unfold bu at hj
    rw[List.contains_iff_mem,List.mem_map]at hj
    obtain⟨e,he,rfl⟩:=hj
    obtain⟨he1,he2⟩:=List.mem_filter.1 he
    unfold bI at hb
    rw[Bool.and_eq_true]at hb
    have his:i < ops.size:=(Array.getElem?_eq_some_iff.1 jS).1
    have h1:=List.all_eq_true.1 hb.1 i (List.mem_range.2 his)
    rw[jS]at h1
    have h2:=Array.all_eq_true_iff_forall_mem.1 h1 e (by simpa using he1)
    rw[he2]at h2
    simpa using h2
  have hda:∀ (i:Nat) (o:Oper),ops[i]? =some o→qw ops i=bu o:=by
    intro i o jS
    unfold qw;rw[jS]
  refine xq (F:=fun i o=>ops[i]? =some o∧(i < N→Jd P ops N V G Gr a i o)∧(N≤i→StepT P ops S a i o)) (Ru ops N V G S) hm hd hb iR hsz ?_ ?_ ?_ (hall ops.toList 0 (fun k o ho=>?_) (fun k o h=>by simpa using h)) ?_
  · rintro l l' v w h ⟨h1,h2⟩
    refine⟨fun j hj hl k hk=>?_,?_⟩
    · rw[←h j hj]at hl
      have h3:=h1 j hj hl k hk
      have hks:k < ops.size:=by
        obtain⟨o,ho⟩:∃ o,ops[j]? =some o:=⟨_,Array.getElem?_eq_getElem hj⟩
        rw[hda j o ho]at hk
        have:=hlt j o ho k hk
        omega
      rw[←h k hks];exact h3
    · rcases h2 with⟨h3,h4,h5⟩ | ⟨s,h3,h4,h5,h6,h7⟩
      · exact .inl ⟨fun i hi his=>by rw[←h i his];exact h3 i hi his,h4,fun j hj hl=>h5 j hj (by rw[h j (by omega)];exact hl)⟩
      · exact .inr ⟨s,h3,h4,fun i hi=>by rw[←h i (by omega)];exact h5 i hi,fun i hi his=>by rw[←h i his];exact h6 i hi his,h7⟩
  · exact⟨(fun j _ h=>by cases h),.inl ⟨(fun _ _ _=>rfl),h0,(fun j _ h=>by cases h)⟩⟩
  · rintro i o ⟨jS,hA,hB⟩
    intro l v w' hl hdp hJ
    obtain⟨hC,hP⟩:=hJ
    have his:i < ops.size:=(Array.getElem?_eq_some_iff.1 jS).1
    have hC':∀ j,j < ops.size→aJ l i j=true→∀ k,(qw ops j).contains k=true→aJ l i k=true:=by
      intro j hj hlj k hk
      unfold aJ at hlj⊢
      by_cases hki:k=i
      · rw[if_pos hki]
      · rw[if_neg hki]
        by_cases hji:j=i
        · subst hji
          rw[hda j o jS]at hk
          exact hdp k hk
        · rw[if_neg hji]at hlj
          exact hC j hj hlj k hk
    by_cases hiN:i < N
    ·
      have hst:=hA hiN
      rcases hP with⟨h3,hG,hv⟩ | ⟨s,h3,h4,h5,h6,h7⟩
      case inr=>rw[h5 i (by omega)]at hl;cases hl
      have hnx:∀ x w'',V i x w''→G w''→(∀ j,j < N→l j=true→V j (v j) w'')→Ru ops N V G S (aJ l i) (bQ v i x) w'':=by
        intro x w'' hx hG' hall'
        refine⟨hC',.inl ⟨fun k hk hks=>?_,hG',fun j hj hlj=>?_⟩⟩
        · unfold aJ;rw[if_neg (by omega)];exact h3 k hk hks
        · unfold aJ at hlj
          unfold bQ
          by_cases hji:j=i
          · subst hji;rw[if_pos rfl];exact hx
          · rw[if_neg hji]at hlj⊢;exact hall' j hj hlj
      obtain⟨hgk,hst⟩:=hst
      have hgd:∀ g b,o.guard=some (g,b)→(bu o).contains g=true:=by
        intro g b hg
        have h1:=Array.all_eq_true_iff_forall_mem.1 iR o (Array.mem_of_getElem? jS)
        rw[hg]at h1
        simp only[Bool.and_eq_true]at h1
        exact h1.1.1
      refine⟨fun g b hg=>?_,fun hg a' _hs h4 h5 K Qp hK=>aO.wp ?_⟩
      · obtain⟨b',hb1,hb2⟩:=hgk g b hg
        have hgN:g < N:=by have:=hlt i o jS g (hgd g b hg);omega
        have hgv:=hb1 _ _ (hv g hgN (hdp g (hgd g b hg)))
        exact⟨b',hgv,fun hne=>hnx undef w' (hb2 hne w') hG hv⟩
      · refine(hst w' hG (fun g b h v0 w0 hv0=>?_) a'.eval (fun _=>rfl) (fun _=>rfl) (fun _=>rfl) (fun j d hj hjd=>?_) (fun d uw=>h5 d (fun j hjd=>?_))).mono fun x w'' h=>hK x w'' (hnx x w'' h.1 h.2.1 (fun j hj hlj=>rM j _ _ _ (hv j hj hlj) h.2.2))
        · obtain⟨b',hb1,-⟩:=hgk g b h
          have hgN:g < N:=by have:=hlt i o jS g (hgd g b h);omega
          have e1:=hb1 _ _ (hv g hgN (hdp g (hgd g b h)))
          have e2:=hg g b h
          rw[e1]at e2
          rw[hb1 _ _ hv0,e2]
        · rw[h4 j d hj hjd]
          exact hv j (by have:=hlt i o jS j hj;omega) (hdp j hj)
        · rcases Nat.lt_or_ge j N with hjN | hjN
          · have:=List.all_eq_true.1 uw j (List.mem_range.2 hjN)
            simp[hjd]at this
          · have hjs:j < ops.size:=by
              unfold aB at hjd
              rcases Nat.lt_or_ge j ops.size with h | h
              · exact h
              · rw[Array.getElem?_eq_none h]at hjd;cases hjd
            exact h3 j hjN hjs
    ·
      have hst:=hB (by omega)
      obtain⟨hgn,hst⟩:=hst
      have hcl:Jl ops (fun k=>if k < ops.size then l k else true):=by
        intro j hj k hk
        dsimp only at hj⊢
        by_cases hks:k < ops.size
        · rw[if_pos hks]
          by_cases hjs:j < ops.size
          · rw[if_pos hjs]at hj
            exact hC j hjs hj k hk
          · exfalso
            unfold qw at hk
            rw[Array.getElem?_eq_none (by omega)]at hk
            cases hk
        · rw[if_neg hks]
      have hdn:∀ j,j < i→l j=true:=by
        intro j hj
        have ht:=List.all_eq_true.1 htail i (List.mem_range.2 his)
        rw[Bool.or_eq_true]at ht
        rcases ht with ht | ht
        · simp at ht;omega
        · have ht:=List.all_eq_true.1 ht j (List.mem_range.2 hj)
          have:=yl hcl (i+1) i j (fun k hk=>by
            rw[hda i o jS]at hk
            by_cases hks:k < ops.size
            · rw[if_pos hks];exact hdp k hk
            · rw[if_neg hks]) ht
          rwa [if_pos (by omega)]at this
      have hS:S i v w'∧∀ k,i≤k→k < ops.size→l k=false:=by
        rcases hP with⟨h3,hG,hv⟩ | ⟨s,h3,h4,h5,h6,h7⟩
        · have Yx:i=N:=by
            rcases Nat.lt_or_ge N i with h | h
            · have:=hdn N h
              rw[h3 N (Nat.le_refl _) hNs]at this
              cases this
            · omega
          subst Yx
          exact⟨hstart v w' hG (fun j hj=>hv j hj (hdn j hj)),h3⟩
        · have hsi:s=i:=by
            rcases Nat.lt_trichotomy s i with h | h | h
            · have h8:=hdn s h
              rw[h6 s (Nat.le_refl _) (by omega)]at h8
              cases h8
            · exact h
            · rw[h5 i h]at hl;cases hl
          subst hsi
          exact⟨h7,h6⟩
      refine⟨(fun g b hg=>by rw[hgn]at hg;cases hg),fun _ a' _hs h4 h5 K Qp hK=>aO.wp ?_⟩
      refine(hst v w' hS.1 a'.eval (fun _=>rfl) (fun _=>rfl) (fun _=>rfl) h4 (fun d _ uw=>h5 d (fun j hjd=>?_))).mono fun x w'' h=>hK x w'' ⟨hC',.inr ⟨i+1,by omega,by omega,fun k hk=>?_,fun k hk hks=>?_,h⟩⟩
      · exfalso
        unfold rV at uw
        have hjs:j < ops.size:=by
          unfold aB at hjd
          rcases Nat.lt_or_ge j ops.size with h | h
          · exact h
          · rw[Array.getElem?_eq_none h]at hjd;cases hjd
        have:=List.all_eq_true.1 uw j (List.mem_range.2 hjs)
        simp[hjd]at this
      · unfold aJ
        by_cases hki:k=i
        · rw[if_pos hki]
        · rw[if_neg hki];exact hdn k (by omega)
      · unfold aJ
        rw[if_neg (by omega)];exact hS.2 k (by omega) hks
  · rw[Nat.zero_add]
    refine⟨fun hk=>?_,fun hk=>?_⟩
    · have:=bZ.get Nj k o (by rw[List.getElem?_take];simp[hk];simpa using ho)
      rwa [Nat.zero_add]at this
    · have:=bZ.get Nh (k-N) o (by rw[List.getElem?_drop];rw[show N+(k-N)=k by omega];simpa using ho)
      rwa [show N+(k-N)=k by omega]at this
  · rintro v w' ⟨-,h⟩
    rw[hF]
    rcases h with⟨h3,-,-⟩ | ⟨s,h3,h4,h5,h6,h7⟩
    · exact absurd (h3 N (Nat.le_refl _) hNs) (by simp)
    · have:s=ops.size:=by
        rcases Nat.lt_or_ge s ops.size with h | h
        · exact absurd (h6 s (Nat.le_refl _) h) (by simp)
        · omega
      subst this
      exact hdone v w' h7
end
end Go.Proofs.YtcddlnmcjmhbcaaDoor
-- short
