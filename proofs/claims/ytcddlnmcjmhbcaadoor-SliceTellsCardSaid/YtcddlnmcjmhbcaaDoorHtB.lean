/-
  Joined texts: RegR RegA RnF.
-/
import Derived.Test.YtcddlnmcjmhbcaaDoorRgB
import Derived.OrdersIn
import Derived.RangeFuncCalls
import Derived.TacticsInMore
import Derived.Test.YtcddlnmcjmhbcaaDoorRgG
import Derived.RangeFuncNested
import Derived.RangeFuncLeaves
namespace Go.Proofs.YtcddlnmcjmhbcaaDoor
set_option linter.unusedVariables false
open Go Go.RowKit
theorem FZ {P:Program} {row:String} {args:Array Value} {w:World} {R:Value→World→Prop} (l n:Nat) (h:Rows P row args w R):RowsIn (Fence.wide.inRound l) n P row args w R:=
 fun c cs _=>let ⟨v,w',r,s⟩:=h c cs;⟨v,w',r,stepsIn_wide.2 s⟩
def xM (ops:Array Oper):Bool:=ops.all fun o=>match o.op with | .defer _=>false | _=>true
variable {P:Program} {ops:Array Oper} {Q:Exit→Act→World→Prop}
theorem vP {o:Oper} {a:Act} {w:World} {K:Act→World→Prop} {l n:Nat} (hnd:∀ c,o.op≠.defer c) (h:o.wp P a w K Q):o.wpIn (Fence.wide.inRound l) n P a w K Q:=by
 refine⟨fun _ _=>trivial,?_⟩
 show o.uponIn _ n P a K Q ((o.semAt (some l) a.eval).run P w)
 rw[Oper.semAt_some l a.eval o hnd]
 unfold Oper.wp at h
 generalize (execOp a.eval o).run P w=r at h⊢
 cases r with
 | ok x w'=>
  cases x with
  | value v=>exact h
  | skip=>exact h
  | defer d=>exact h
  | enter f args=>
   exact⟨(fun e=>Bool.noConfusion e),(CallsIn.inRound l (callsIn_wide.2 h)).mono (fun e w'' he=>by cases e <;> exact he)⟩
  | row rw args=>exact⟨(fun e=>Bool.noConfusion e),FZ l _ h⟩
  | _=>exact h.elim
 | halt x w'=>cases x <;> exact h
theorem pY {l n:Nat} {md:Region.Mode} (hnd:xM ops=true) (hq:¬ LetsOut Q):∀ (fuel:Nat) (listed:Array Bool) (a:Act) (w:World),wpAny P md ops Q fuel listed a w→wpAnyIn (Fence.wide.inRound l) n P md ops Q fuel listed a w
 | 0,listed,a,w,h=>h
 | fuel+1,listed,a,w,h=>by
  refine⟨h.1,fun i hi=>?_⟩
  have h':=h.2 i hi
  unfold wpOp at h'
  unfold wpOpIn
  cases ho:ops[i]? with
  | none=>rw[ho]at h';exact pY hnd hq fuel _ _ _ h'
  | some o=>
   rw[ho]at h'
   dsimp only at h'⊢
   have hno:∀ c,o.op≠.defer c:=by
    intro c hc
    have:=Array.all_eq_true_iff_forall_mem.1 hnd o (Array.mem_of_getElem? ho)
    rw[hc]at this
    cases this
   split
   ·rename_i hw
    rw[if_pos hw]at h'
    rcases h' with h' | h'
    ·exact vP hno (Oper.wp_mono (fun a w hh=>pY hnd hq fuel _ a w hh) h')
    ·exact absurd h'.2 hq
   ·rename_i hw
    rw[if_neg hw]at h'
    exact⟨fun _ _=>trivial,pY hnd hq fuel _ _ _ h'⟩
theorem BB {id l n:Nat} {a:Act} {w:World} (hm:P.follows .mixedOrders=true) (hnd:xM ops=true) (hq:¬ LetsOut Q)
  (h:wpAny P .any ops Q ops.size (Array.replicate ops.size false) a { w with drawn:=w.drawn+1 }):(Code.region id ops true).wpIn (Fence.wide.inRound l) n P Q a w:=
 wpIn_region_any hm (pY hnd hq _ _ _ _ h)
theorem zQ {F:Nat→Oper→Prop} {id lp nn:Nat} {a:Act} {w:World} (J:(Nat→Bool)→(Nat→Value)→World→Prop) (hm:P.follows .mixedOrders=true) (hnd:xM ops=true) (hq:¬ LetsOut Q) (hd:bM ops=true) (hb:bI ops=true) (iR:fU ops=true)
  (hsz:(List.range ops.size).all (fun i=>match aB ops i with | some d=>decide (d < a.tmps.size) | none=>true)=true)
  (jf:∀ (l l':Nat→Bool) (v:Nat→Value) w,(∀ i,i < ops.size→l i=l' i)→J l v w→J l' v w)
  (h0:J (fun _=>false) (fun _=>undef) w.drew)
  (hto:∀ i o,F i o→EM P ops J a i o)
  (hstep:bZ F 0 ops.toList)
  (hdone:∀ (vals:Nat→Value) w',J (fun _=>true) vals w'→Q .normal (ay ops vals (fun _=>true) a ops.size) w'):
  (Code.region id ops true).wpIn (Fence.wide.inRound lp) nn P Q a w:=by
 refine BB hm hnd hq ?_
 have hf:∀ n,(Array.replicate ops.size false).getD n false=false:=by
  intro n
  by_cases h:n < ops.size <;> simp[Array.getD,h]
 have hnone:ay ops (fun _=>undef) (fun i=>(Array.replicate ops.size false).getD i false) a ops.size=a:=by
  have:∀ n,ay ops (fun _=>undef) (fun i=>(Array.replicate ops.size false).getD i false) a n=a:=by
   intro n
   induction n with
   | zero=>rfl
   | succ n ih=>
    have hfn:=hf n
    simp only[ay,hfn,Bool.false_eq_true,if_false];exact ih
  exact this _
 have:=vS hd iR J a hsz jf (fun i o jS=>by have:=bZ.get hstep i o (by simpa using jS);rw[Nat.zero_add]at this;exact hto i o this) hdone (pV hb)
  (fun listed' h1 h2 i hi=>oU hb h1 h2 (i+1) i (by omega) hi) ops.size (Array.replicate ops.size false) (fun _=>undef) w.drew (by simp) (by
  have:=List.length_filter_le (fun i=>!(Array.replicate ops.size false).getD i true) (List.range ops.size)
  simpa using this) (jf _ _ _ _ (fun i _=>(hf i).symm) h0)
 rw[hnone]at this
 exact this
theorem mZ {id lp nn:Nat} {a aF:Act} {w:World} (vals:List Value) (J:(Nat→Bool)→World→Prop) (hF:ay ops (fun i=>vals.getD i undef) (fun _=>true) a ops.size=aF) (hm:P.follows .mixedOrders=true) (hnd:xM ops=true) (hq:¬ LetsOut Q) (hd:bM ops=true) (hb:bI ops=true) (kJ:wJ ops=true) (hsel:Region.noSelect ops=true) (iR:fU ops=true)
  (hgv:ops.all (fun o=>match o.guard with | some (g,_)=>(match vals.getD g undef with | .bool _=>true | _=>false) | none=>true)=true)
  (hsz:(List.range ops.size).all (fun i=>match aB ops i with | some d=>decide (d < a.tmps.size) | none=>true)=true)
  (jf:∀ (l l':Nat→Bool) w,(∀ i,i < ops.size→l i=l' i)→J l w→J l' w)
  (h0:J (fun _=>false) w.drew)
  (hstep:bZ (fun i o=>∀ l w',l i=false→(∀ j,(bu o).contains j=true→l j=true)→J l w'→
   if Region.wanted o (yielded ops aF.tmps)=true then zY P o aF (vals.getD i undef) (J (aJ l i)) w' else vals.getD i undef=undef∧J (aJ l i) w') 0 ops.toList)
  (hdone:∀ w',J (fun _=>true) w'→Q .normal aF w'):
  (Code.region id ops true).wpIn (Fence.wide.inRound lp) nn P Q a w:=by
 subst hF
 refine zQ (F:=fun i o=>ops[i]? =some o∧∀ l w',l i=false→(∀ j,(bu o).contains j=true→l j=true)→J l w'→
   if Region.wanted o (yielded ops (ay ops (fun i=>vals.getD i undef) (fun _=>true) a ops.size).tmps)=true then zY P o (ay ops (fun i=>vals.getD i undef) (fun _=>true) a ops.size) (vals.getD i undef) (J (aJ l i)) w' else vals.getD i undef=undef∧J (aJ l i) w')
  (fun l v w=>J l w∧∀ j d,l j=true→aB ops j=some d→v j=vals.getD j undef) hm hnd hq hd hb iR hsz (fun l l' v w h hJ=>⟨jf l l' w h hJ.1,fun j d hj hjd=>hJ.2 j d ?_ hjd⟩) ⟨h0,fun j d h=>by cases h⟩ ?_ ?_ ?_
 ·have hjs:j < ops.size:=by
   rcases Nat.lt_or_ge j ops.size with h | h
   ·exact h
   ·unfold aB at hjd;rw[Array.getElem?_eq_none h]at hjd;simp at hjd
  rw[h j hjs];exact hj
 ·rintro i o ⟨jS,hst⟩ listed v w' hl hdp ⟨hJ,hv⟩
  have his:i < ops.size:=(Array.getElem?_eq_some_iff.1 jS).1
  have hdo:aB ops i=o.dst:=by unfold aB;rw[jS];rfl
  have nO:=List.all_eq_true.1 kJ i (List.mem_range.2 his)
  rw[jS]at nO
  simp only at nO
  have hst:=hst listed w' hl hdp hJ
  have hdone:∀ x,(o.dst=none∨x=vals.getD i undef)→∀ j d,aJ listed i j=true→aB ops j=some d→bQ v i x j=vals.getD j undef:=by
   intro x hx j d hj hjd
   unfold aJ at hj
   unfold bQ
   by_cases hji:j=i
   ·subst hji
    rw[if_pos rfl]
    rcases hx with hx | hx
    ·rw[hdo,hx]at hjd;cases hjd
    ·exact hx
   ·rw[if_neg hji]at hj⊢
    exact hv j d hj hjd
  have hgb:∀ g b,o.guard=some (g,b)→∃ b' d,vals.getD g undef=.bool b'∧aB ops g=some d∧d < a.tmps.size∧(bu o).contains g=true:=by
   intro g b hg
   have h1:=Array.all_eq_true_iff_forall_mem.1 iR o (Array.mem_of_getElem? jS)
   have h2:=Array.all_eq_true_iff_forall_mem.1 hgv o (Array.mem_of_getElem? jS)
   rw[hg]at h1 h2
   simp only[Bool.and_eq_true,decide_eq_true_eq,Option.isSome_iff_exists]at h1
   obtain⟨⟨h3,hgs⟩,d,hd'⟩:=h1
   have hds:d < a.tmps.size:=by
    have:=List.all_eq_true.1 hsz g (List.mem_range.2 hgs)
    rw[hd']at this
    simpa using this
   simp only at h2
   split at h2
   ·rename_i b' hb'
    exact⟨b',d,hb',hd',hds,h3⟩
   ·cases h2
  have hgs:∀ g,(∃ b,o.guard=some (g,b))→g < ops.size:=by
   rintro g ⟨b,hg⟩
   have h1:=Array.all_eq_true_iff_forall_mem.1 iR o (Array.mem_of_getElem? jS)
   rw[hg]at h1
   simp only[Bool.and_eq_true,decide_eq_true_eq]at h1
   exact h1.1.2
  have hwv:Region.wanted o (yielded ops (ay ops (fun i=>vals.getD i undef) (fun _=>true) a ops.size).tmps)=true↔∀ g b,o.guard=some (g,b)→vals.getD g undef=.bool b:=by
   unfold Region.wanted
   cases hg:o.guard with
   | none=>simp
   | some gb=>
    obtain⟨g,b⟩:=gb
    obtain⟨b',d,h1,h2,h3,h4⟩:=hgb g b hg
    have hy:=mX (a':=ay ops (fun i=>vals.getD i undef) (fun _=>true) a ops.size) (b:=b') h2 (by rw[dm];exact h3) ((dn hd h2 rfl h3 ops.size (hgs g ⟨b,hg⟩) (Nat.le_refl _)).trans h1)
    simp only[hy]
    constructor
    ·intro h g' b2 h'
     obtain⟨rfl,rfl⟩:=Prod.mk.inj (Option.some.inj h')
     rw[h1]
     simp at h
     rw[h]
    ·intro h
     have:=(h g b rfl).symm.trans h1
     injection this with this
     simp[this]
  refine⟨fun g b hg=>?_,fun hgt a' hs hr hf K Qp hK=>?_⟩
  ·obtain⟨b',d,h1,h2,h3,h4⟩:=hgb g b hg
   refine⟨b',(hv g d (hdp g h4) h2).trans h1,fun hne=>?_⟩
   have hwf:¬ Region.wanted o (yielded ops (ay ops (fun i=>vals.getD i undef) (fun _=>true) a ops.size).tmps)=true:=by
    rw[hwv]
    intro h
    have:=h1.symm.trans (h g b hg)
    injection this with this
    exact hne this
   rw[if_neg hwf]at hst
   exact⟨hst.2,hdone undef (Or.inr hst.1.symm)⟩
  ·have hwt:Region.wanted o (yielded ops (ay ops (fun i=>vals.getD i undef) (fun _=>true) a ops.size).tmps)=true:=by
    rw[hwv]
    intro g b hg
    obtain⟨b',d,h1,h2,h3,h4⟩:=hgb g b hg
    rw[←hv g d (hdp g h4) h2]
    exact hgt g b hg
   rw[if_pos hwt]at hst
   have look:∀ t,t∈o.looksAt ops→a'.eval (.tmp t)=(ay ops (fun i=>vals.getD i undef) (fun _=>true) a ops.size).eval (.tmp t):=by
    intro t ht
    have h1:=List.all_eq_true.1 nO t ht
    by_cases hx:∃ j,j < ops.size∧aB ops j=some t
    ·obtain⟨j,hj,hjt⟩:=hx
     have h2:=List.all_eq_true.1 h1 j (List.mem_range.2 hj)
     rw[hjt]at h2
     simp only[bne_self_eq_false,Bool.false_or]at h2
     have hjd:(bu o).contains j=true:=by
      obtain⟨e,he,hbe⟩:=List.any_eq_true.1 h2
      simp only[Bool.and_eq_true,beq_iff_eq]at hbe
      unfold bu
      rw[List.contains_iff_mem,List.mem_map]
      exact⟨e,List.mem_filter.2 ⟨he,hbe.1⟩,hbe.2⟩
     have hts:t < a.tmps.size:=by
      have:=List.all_eq_true.1 hsz j (List.mem_range.2 hj)
      rw[hjt]at this
      simpa using this
     rw[hr j t hjd hjt,hv j t (hdp j hjd) hjt,dn hd hjt rfl hts ops.size hj (Nat.le_refl _)]
    ·have hall:rV ops t=true:=by
      refine List.all_eq_true.2 fun j hj=>?_
      rw[bne_iff_ne]
      exact fun e=>hx ⟨j,List.mem_range.1 hj,e⟩
     rw[hf t hall,eF ops.size (fun j hj e=>hx ⟨j,hj,e⟩)]
   have yT:execOp a'.eval o=execOp (ay ops (fun i=>vals.getD i undef) (fun _=>true) a ops.size).eval o:=by
    refine execOp_congr o (Region.noSelect_spec hsel i o · · jS) fun x hx=>?_
    cases x with
    | tmp t=>exact look t (List.mem_append_left _ (List.mem_filterMap.2 ⟨.tmp t,by simpa using hx,rfl⟩))
    | const c=>rfl
    | global g=>rfl
    | func f=>rfl
   unfold Oper.wp
   rw[yT]
   refine nC (aL:=ay ops (fun i=>vals.getD i undef) (fun _=>true) a ops.size) (R:=fun x w''=>(o.dst=none∨x=vals.getD i undef)∧J (aJ listed i) w'') ?_ ?_ fun x w'' h=>hK _ _ ⟨h.2,hdone x h.1⟩
   ·intro d hdd
    rw[dm]
    have:=List.all_eq_true.1 hsz i (List.mem_range.2 his)
    rw[hdo,hdd]at this
    simpa using this
   ·exact hst _ _ fun w'' h=>⟨_,rfl,Or.inr rfl,h⟩
 ·have:∀ (l:List Oper) (n:Nat),(∀ k o,l[k]? =some o→ops[n+k]? =some o)→bZ (fun i o=>∀ l w',l i=false→(∀ j,(bu o).contains j=true→l j=true)→J l w'→
    if Region.wanted o (yielded ops (ay ops (fun i=>vals.getD i undef) (fun _=>true) a ops.size).tmps)=true then zY P o (ay ops (fun i=>vals.getD i undef) (fun _=>true) a ops.size) (vals.getD i undef) (J (aJ l i)) w' else vals.getD i undef=undef∧J (aJ l i) w') n l→bZ (fun i o=>ops[i]? =some o∧∀ l w',l i=false→(∀ j,(bu o).contains j=true→l j=true)→J l w'→
    if Region.wanted o (yielded ops (ay ops (fun i=>vals.getD i undef) (fun _=>true) a ops.size).tmps)=true then zY P o (ay ops (fun i=>vals.getD i undef) (fun _=>true) a ops.size) (vals.getD i undef) (J (aJ l i)) w' else vals.getD i undef=undef∧J (aJ l i) w') n l:=by
   intro l
   induction l with
   | nil=>intro n _ _;trivial
   | cons x l ih=>
    intro n hk h
    refine⟨⟨by simpa using hk 0 x rfl,h.1⟩,ih (n+1) (fun k o ho=>?_) h.2⟩
    have:=hk (k+1) o (by simpa using ho)
    have e:n+1+k=n+(k+1):=by omega
    rw[e];exact this
  exact this ops.toList 0 (fun k o h=>by simpa using h) hstep
 ·intro v w' h
  rw[gW (vals':=fun i=>vals.getD i undef) ops.size (fun i d hi hid=>h.2 i d rfl hid)]
  exact hdone w' h.1
structure lF (ops:Array Oper) (x y z:Nat) (W0 W1 W2 W3:World) (l:Nat→Bool) (w':World):Prop where
 clo:∀ i o j,ops[i]? =some o→l i=true→(bu o).contains j=true→l j=true
 s0:l x=false→w'=W0
 s1:l x=true→l y=false→w'=W1
 s2:l y=true→l z=false→w'=W2
 s3:l z=true→w'=W3
variable {ops:Array Oper} {x y z:Nat} {W0 W1 W2 W3 w':World} {l l':Nat→Bool}
theorem lF.ext (hb:bI ops=true) (hx:x < ops.size) (hy:y < ops.size) (hz:z < ops.size) (h:∀ i,i < ops.size→l i=l' i) (H:lF ops x y z W0 W1 W2 W3 l w'):lF ops x y z W0 W1 W2 W3 l' w' where
 clo i o j hi hl hd:=by
  have his:i < ops.size:=(Array.getElem?_eq_some_iff.1 hi).1
  have h1:=H.clo i o j hi (by rw[h i his];exact hl) hd
  have hjs:j < ops.size:=by
   have h2:=pV hb
   have h3:=Array.all_eq_true_iff_forall_mem.1 h2 o (Array.mem_of_getElem? hi)
   unfold bu at hd
   rw[List.contains_iff_mem,List.mem_map]at hd
   obtain⟨e,he,rfl⟩:=hd
   have he':=(List.mem_filter.1 he).1
   have:=Array.all_eq_true_iff_forall_mem.1 h3 e (by simpa using he')
   simpa using this
  rw[←h j hjs];exact h1
 s0 hl:=H.s0 (by rw[h x hx];exact hl)
 s1 h1 h2:=H.s1 (by rw[h x hx];exact h1) (by rw[h y hy];exact h2)
 s2 h1 h2:=H.s2 (by rw[h y hy];exact h1) (by rw[h z hz];exact h2)
 s3 h1:=H.s3 (by rw[h z hz];exact h1)
theorem lF.start:lF ops x y z W0 W1 W2 W3 (fun _=>false) W0:=⟨(fun i o j _ h=>by cases h),fun _=>rfl,(fun h=>by cases h),(fun h=>by cases h),(fun h=>by cases h)⟩
theorem lF.Qn (H:lF ops x y z W0 W1 W2 W3 l w') {i:Nat} {o:Oper} (hi:ops[i]? =some o) (hdp:∀ j,(bu o).contains j=true→l j=true):∀ k o j,ops[k]? =some o→aJ l i k=true→(bu o).contains j=true→aJ l i j=true:=by
 intro k o' j hk hl hd
 unfold aJ at hl⊢
 by_cases hj:j=i
 ·rw[if_pos hj]
 ·rw[if_neg hj]
  by_cases hki:k=i
  ·subst hki
   rw[hi]at hk
   cases hk
   exact hdp j hd
  ·rw[if_neg hki]at hl
   exact H.clo k o' j hk hl hd
theorem iK {l:Nat→Bool} {i k:Nat} (h:k≠i):aJ l i k=l k:=by unfold aJ;rw[if_neg h]
theorem zx {l:Nat→Bool} {i:Nat}:aJ l i i=true:=by unfold aJ;rw[if_pos rfl]
theorem lF.other (H:lF ops x y z W0 W1 W2 W3 l w') {i:Nat} {o:Oper} (hi:ops[i]? =some o) (hdp:∀ j,(bu o).contains j=true→l j=true) (h1:x≠i) (h2:y≠i) (h3:z≠i):lF ops x y z W0 W1 W2 W3 (aJ l i) w':=
 ⟨H.Qn hi hdp,by rw[iK h1];exact H.s0,by rw[iK h1,iK h2];exact H.s1,by rw[iK h2,iK h3];exact H.s2,by rw[iK h3];exact H.s3⟩
theorem lF.first (H:lF ops x y z W0 W1 W2 W3 l w') {o:Oper} (hi:ops[x]? =some o) (hdp:∀ j,(bu o).contains j=true→l j=true) (hl:l x=false) (hxy:l y=true→l x=true) (hyz:l z=true→l y=true) (h1:x≠y) (h2:x≠z):w'=W0∧lF ops x y z W0 W1 W2 W3 (aJ l x) W1:=by
 have ly:l y=false:=by cases h:l y with | false=>rfl | true=>rw[hxy h]at hl;cases hl
 have lz:l z=false:=by cases h:l z with | false=>rfl | true=>rw[hyz h]at ly;cases ly
 exact⟨H.s0 hl,⟨H.Qn hi hdp,(fun h=>by rw[zx]at h;cases h),fun _ _=>rfl,(fun h=>by rw[iK h1.symm,ly]at h;cases h),(fun h=>by rw[iK h2.symm,lz]at h;cases h)⟩⟩
theorem lF.second (H:lF ops x y z W0 W1 W2 W3 l w') {o:Oper} (hi:ops[y]? =some o) (hdp:∀ j,(bu o).contains j=true→l j=true) (hl:l y=false) (hx:l x=true) (hyz:l z=true→l y=true) (h1:x≠y) (h2:y≠z):w'=W1∧lF ops x y z W0 W1 W2 W3 (aJ l y) W2:=by
 have lz:l z=false:=by cases h:l z with | false=>rfl | true=>rw[hyz h]at hl;cases hl
 exact⟨H.s1 hx hl,⟨H.Qn hi hdp,(fun h=>by rw[iK h1,hx]at h;cases h),(fun _ h=>by rw[zx]at h;cases h),fun _ _=>rfl,(fun h=>by rw[iK h2.symm,lz]at h;cases h)⟩⟩
theorem lF.third (H:lF ops x y z W0 W1 W2 W3 l w') {o:Oper} (hi:ops[z]? =some o) (hdp:∀ j,(bu o).contains j=true→l j=true) (hl:l z=false) (hy:l y=true) (hx:l x=true) (h1:x≠z) (h2:y≠z):w'=W2∧lF ops x y z W0 W1 W2 W3 (aJ l z) W3:=
 ⟨H.s2 hy hl,⟨H.Qn hi hdp,(fun h=>by rw[iK h1,hx]at h;cases h),(fun _ h=>by rw[iK h2,hy]at h;cases h),(fun _ h=>by rw[zx]at h;cases h),fun _=>rfl⟩⟩
theorem lF.done (H:lF ops x y z W0 W1 W2 W3 (fun _=>true) w'):w'=W3:=H.s3 rfl
theorem fD.YX {W0 w':World} {b p q m n d:Nat} {x y:Value} {l:Nat→Bool} {cs:Array Value} {t:TypeId} (hne:d≠b) (H:fD W0 b p q x y m n l w') (h:aA W0 d cs t):aA w' d cs t:=by
 rw[H.is]
 split
 ·exact(h.aC _ _ (by exact hne)).aC _ _ (by exact hne)
 ·split
  ·exact h.aC _ _ (by exact hne)
  ·exact h
theorem lS (W:World) (cs:Array Value) (t:TypeId):∀ j u,cs.toList[j]? =some u→(W.alloc (.cells cs t)).cell? ((⟨W.heap.size,0,none⟩:Addr).add j)=some u:=by
 intro j u hu
 have:(⟨W.heap.size,0,none⟩:Addr).add j=⟨W.heap.size,j,none⟩:=by unfold Addr.add;split <;> simp_all
 rw[this]
 exact(aA.new W cs t).cell j (by simpa using hu)
def iY (B:Nat) (J:World→Prop):Prop:=∀ W W' row,J W→W.grownBy W' row→(∀ r,row=some r→B≤r∧∃ o:Obj,W.heap[r]? =some o∧o.isWalk=true)→J W'
def CW (F:Fence) (n:Nat) (P:Program) (g:Nat) (lb:Array Value) (encs:Nat→Array Value) (N:Nat) (Kp:World→World→Prop) (w:World):Prop:=
 ∀ (l:Nat) (J:Nat→World→Prop) (W:World),Below w.heap.size w W→(∀ k,iY W.heap.size (J k))→
  (∀ k W1,J k W1→k < N→YieldAt F (n-1) P l (encs k) W1 fun e W'=>e=.returned (.bool true)∧J (k+1) W'∧Kp W1 W')→
  J 0 W→CallsIn F n P g (#[.func (.yield l) #[] #[]]++lb) W fun e W'=>(∃ v,e=.returned v)∧J N W'
def TF (B:Nat) (Kp:World→World→Prop) (I:World→Prop) (W:World):Exit→Act→World→Prop
 | .normal,_,W'=>KeepsFrom B W W'∧Kp W W'∧I W'
 | _,_,_=>False
variable {F:Fence} {n:Nat} {P:Program}
theorem lW {g:Operand} {ps:Array Tmp} {assign body:Code} {Q:Exit→Act→World→Prop} {a:Act} {w:World}
  (hro:F.round=none) (h1:1≤n) {gf:Nat} {lb:Array Value} (hg:a.eval g=.func (.func gf) #[] lb) (hFg:F.fn gf) (eg:∀ args w,(callFunc gf args).run P w=.ok (.enter gf args) w)
  {encs:Nat→Array Value} {Kp:World→World→Prop} {N:Nat} {w0:World} (hseq:CW F (n-1) P gf lb encs N Kp w0)
  (hKt:∀ {A B C:World},Kp A B→Kp B C→Kp A C) (hKb:∀ (W:World) (l:Nat) (o o':Obj),w.heap.size≤l→W.heap[l]? =some o→o.isCells=false→o.isWalk=false→Kp W (W.putObj l o')) (hb0:Below w0.heap.size w0 w) (hps:∀ k,(encs k).size=ps.size)
  (I:Nat→World→Prop) (hI:OwnFrom w.heap.size I) (h0:I 0 w) (a₁:Nat→Act)
  (hassign:∀ (l k:Nat) (W:World) (K:Act→World→Prop),K (a₁ k) W→
   assign.wpIn (F.inRound l) (n-1-1) P (Exit.then K (fun _ _ _=>False)) { tmps:=(ps.zip (encs k)).foldl (fun t (p,v)=>t.setIfInBounds p v) a.tmps,defers:=[] } W)
  (hbody:∀ (l k:Nat) (W:World),I k W→k < N→body.wpIn (F.inRound l) (n-1-1) P (TF w.heap.size Kp (I (k+1)) W) (a₁ k) W)
  (hdone:∀ (D:Nat) (W:World),w.heap.size≤D→I N W→W.heap[D]? =some (.deferred (some []))→Q .normal { a with defers:={ target:=.collected D,args:=#[] } :: a.defers } W):
  (Code.rangeFunc g ps assign body).wpIn F n P Q a w:=by
 refine wpIn_rangeFunc fun fn hfn=>?_
 rw[hro]
 generalize hR:(fun st:LoopState=>(fun pe:Option Code=>({ state:=st,pending:=pe,fn,tmps:=a.tmps,params:=ps,assign,body,defers:=w.heap.size }:Loop)))=rc
 have hr0:rc .ready none={ state:=.ready,pending:=none,fn,tmps:=a.tmps,params:=ps,assign,body,defers:=w.heap.size }:=by rw[←hR]
 generalize hW1:(w.alloc (.deferred (some []))).alloc (.loop (rc .ready none))=W1
 have X9:W1.heap[w.heap.size+1]? =some (.loop (rc .ready none)):=by
  have h:=World.alloc_heap_new (w.alloc (.deferred (some []))) (.loop (rc .ready none))
  rw[World.size_alloc]at h
  rw[←hW1];exact h
 have YP:W1.heap[w.heap.size]? =some (.deferred (some [])):=by
  rw[←hW1]
  exact(Below.heap_alloc _ _ _ (by rw[World.size_alloc];omega)).trans (World.alloc_heap_new w _)
 have aab:W1.heap.size=w.heap.size+2:=by rw[←hW1,World.size_alloc,World.size_alloc]
 have TR:Below w0.heap.size w0 W1:=by
  rw[←hW1]
  exact hb0.trans ((((Below.refl _ w).alloc (Nat.le_refl _) _).alloc (by simp) _).mono hb0.size)
 refine⟨w.heap.size+1,[{ target:=.collected w.heap.size,args:=#[] }],W1,{ target:=.fn (.func gf) lb,args:=#[.func (.yield (w.heap.size+1)) #[] #[]] },W1,gf,#[.func (.yield (w.heap.size+1)) #[] #[]]++lb,W1,?_,?_,?_,?_,fun _=>h1,?_⟩
 ·rw[←hW1,hr0];exact run_enterLoop_outer _ _ _ _ _
 ·simp only[resolve,hg];simp[go_sem]
 ·intro f' hf'
  simp[Target.leads]at hf'
  subst hf';exact hFg
 ·simp[invoke,go_sem,eg]
 ·
  generalize hJ:(fun(k:Nat) (W:World)=>I k W∧W.heap[w.heap.size+1]? =some (.loop (rc .ready none))∧W.heap[w.heap.size]? =some (.deferred (some [])))=J
  have X0:∀ {k W},(I k W∧W.heap[w.heap.size+1]? =some (.loop (rc .ready none))∧W.heap[w.heap.size]? =some (.deferred (some [])))→J k W:=fun h=>by rw[←hJ];exact h
  have Yb:∀ {k W},J k W→(I k W∧W.heap[w.heap.size+1]? =some (.loop (rc .ready none))∧W.heap[w.heap.size]? =some (.deferred (some []))):=fun h=>by rw[←hJ]at h;exact h
  have abides:∀ k,iY W1.heap.size (J k):=by
   intro k A B row hs hgr hrow
   obtain⟨h1,h2,h3⟩:=Yb hs
   have hrow':∀ r,row=some r→∃ o:Obj,A.heap[r]? =some o∧o.isWalk=true:=fun r e=>(hrow r e).2
   refine X0 ⟨hI k A B row h1 hgr (fun r e=>?_),(grownBy_keeps hgr hrow' h2 rfl).trans h2,(grownBy_keeps hgr hrow' h3 rfl).trans h3⟩
   obtain⟨hB,o,ho,hw⟩:=hrow r e
   exact⟨by omega,o,ho,Obj.not_cells_of_walk hw⟩
  refine(hseq (w.heap.size+1) J W1 TR abides ?_ (X0 ⟨by rw[←hW1];exact hI.alloc _ (hI.alloc _ h0),X9,YP⟩)).mono ?_
  ·intro k W hs hk
   obtain⟨s1,s2,s3⟩:=Yb hs
   have hy:=run_yield (P:=P) (args:=encs k) s2 (by rw[hr0];exact hps k)
   rw[hr0]at hy
   refine⟨fn,_,assign,body,hy,roundIn_of_wpIn hfn (hassign _ k W _ ⟨_,run_beginRound s2 (by rw[hr0]),?_⟩)⟩
   generalize Xy:W.putObj (w.heap.size+1) (.loop { rc .ready none with state:=.busy })=Wb
   have lt2:w.heap.size+1 < W.heap.size:=(Array.getElem?_eq_some_iff.1 s2).1
   have X8:Wb.heap[w.heap.size+1]? =some (.loop { rc .ready none with state:=.busy }):=by rw[←Xy];exact World.putObj_heap_same lt2
   have YN:Wb.heap[w.heap.size]? =some (.deferred (some [])):=by rw[←Xy];exact(World.putObj_heap_other (by omega)).trans s3
   have kpb:Kp W Wb:=by rw[←Xy];exact hKb _ _ _ _ (by omega) s2 rfl rfl
   have ib:I k Wb:=by rw[←Xy];exact hI.putObj _ s1 (by omega) s2 rfl
   refine wpIn_mono (hbody _ k Wb ib hk) ?_
   intro e a3 W3 hp
   cases e with
   | normal=>
    obtain⟨k3,kp3,i3⟩:=hp
    have PD:=k3.same _ _ (by omega) X8 rfl
    have YO:=k3.same _ _ (Nat.le_refl _) YN rfl
    have lt3:w.heap.size+1 < W3.heap.size:=(Array.getElem?_eq_some_iff.1 PD).1
    have hend:=run_endRound (P:=P) none PD
    refine⟨.bool true,W3.putObj (w.heap.size+1) (.loop (rc .ready none)),?_,rfl,X0 ⟨hI.putObj _ i3 (by omega) PD rfl,World.putObj_heap_same lt3,(World.putObj_heap_other (by omega)).trans YO⟩,hKt (hKt kpb kp3) (hKb _ _ _ _ (by omega) PD rfl rfl)⟩
    rw[hr0]at hend⊢
    exact hend
   | _=>exact hp.elim
  ·rintro e W2 ⟨⟨v,rfl⟩,hs⟩
   obtain⟨s1,s2,s3⟩:=Yb hs
   have hend:=run_endLoop (P:=P) s2 (by rw[hr0];simp)
   refine⟨none,W2.putObj (w.heap.size+1) (.loop { rc .ready none with state:=.exhausted }),?_,hdone _ _ (Nat.le_refl _) (hI.putObj _ s1 (by omega) s2 rfl) ((World.putObj_heap_other (by omega)).trans s3)⟩
   rw[hr0]at hend⊢
   exact hend
def qC (n₀:Nat) (W W':World):Prop:=Below n₀ W W'∧KeepsWalks W W'
theorem yP {n₀:Nat} {A B C:World} (h:qC n₀ A B) (k:qC n₀ B C):qC n₀ A C:=⟨h.1.trans k.1,h.2.trans k.2⟩
theorem yQ {n₀:Nat} {w:World} (hn:n₀≤w.heap.size) (W:World) (l:Nat) (o o':Obj) (hl:w.heap.size≤l) (h:W.heap[l]? =some o) (hc:o.isCells=false) (hw:o.isWalk=false):qC n₀ W (W.putObj l o'):=⟨belowK_b hn W l o o' hl h hc hw,KeepsWalks.putObj _ h hw⟩
end Go.Proofs.YtcddlnmcjmhbcaaDoor
-- short
