/-
  Joined texts: SlD SlF SlR SlP SrK.
-/
import Derived.Test.YtcddlnmcjmhbcaaDoorHtA
import Derived.Test.YtcddlnmcjmhbcaaDoorRgG
namespace Go.Proofs.YtcddlnmcjmhbcaaDoor
set_option linter.unusedVariables false
set_option linter.unusedSimpArgs false
def Fz (a:aH) (v:Int):Bool:=a.writes.any fun p=>p.1==v
def rY (a:aH) (v most:Int):Bool:=decide (0 < a.wv)&&decide (a.wv≤most)&&Fz a v
def gK (L:List aH) (v most:Int):Nat→Int
 | 0=>-1
 | k+1=>if(rY (L.getD k aH.zero) v most&&(decide (gK L v most k < 0)||decide ((L.getD (gK L v most k).toNat aH.zero).wv < (L.getD k aH.zero).wv)))=true then(k:Int)else gK L v most k
def dB (L:List aH) (v most:Int):Int:=gK L v most L.length
def sJ (L:List aH) (v most:Int) (k:Nat) (w:Int):Prop:=
 (w=-1∧∀ i,i < k→rY (L.getD i aH.zero) v most=false)∨
 (0≤w∧w < k∧rY (L.getD w.toNat aH.zero) v most=true∧∀ i,i < k→rY (L.getD i aH.zero) v most=true→(L.getD i aH.zero).wv < (L.getD w.toNat aH.zero).wv∨((L.getD i aH.zero).wv=(L.getD w.toNat aH.zero).wv∧w≤i))
theorem tN (L:List aH) (v most:Int):∀ k,sJ L v most k (gK L v most k)
 | 0=>.inl ⟨rfl,fun i hi=>absurd hi (Nat.not_lt_zero _)⟩
 | k+1=>by
  have ih:=tN L v most k
  unfold gK
  generalize gK L v most k=w at ih⊢
  by_cases hc:rY (L.getD k aH.zero) v most=true
  ·rcases ih with⟨rfl,h⟩ | ⟨h1,h2,h3,h4⟩
   ·rw[if_pos (by rw[hc];simp)]
    refine .inr ⟨by omega,by omega,by rw[Int.toNat_natCast];exact hc,fun i hi h'=>?_⟩
    rw[Int.toNat_natCast]
    by_cases he:i=k
    ·subst he;exact .inr ⟨rfl,Int.le_refl _⟩
    ·rw[h i (by omega)]at h';cases h'
   ·by_cases hg:(L.getD w.toNat aH.zero).wv < (L.getD k aH.zero).wv
    ·rw[if_pos (by rw[hc,decide_eq_true hg];simp)]
     refine .inr ⟨by omega,by omega,by rw[Int.toNat_natCast];exact hc,fun i hi h'=>?_⟩
     rw[Int.toNat_natCast]
     by_cases he:i=k
     ·subst he;exact .inr ⟨rfl,Int.le_refl _⟩
     ·have:=h4 i (by omega) h'
      exact .inl (by omega)
    ·rw[if_neg (by rw[hc,decide_eq_false hg,decide_eq_false (show ¬ w < 0 by omega)];simp)]
     refine .inr ⟨h1,by omega,h3,fun i hi h'=>?_⟩
     by_cases he:i=k
     ·subst he
      omega
     ·exact h4 i (by omega) h'
  ·rw[Bool.not_eq_true]at hc
   rw[if_neg (by rw[hc];simp)]
   rcases ih with⟨rfl,h⟩ | ⟨h1,h2,h3,h4⟩
   ·refine .inl ⟨rfl,fun i hi=>?_⟩
    by_cases he:i=k
    ·subst he;exact hc
    ·exact h i (by omega)
   ·refine .inr ⟨h1,by omega,h3,fun i hi h'=>?_⟩
    by_cases he:i=k
    ·subst he;rw[hc]at h';cases h'
    ·exact h4 i (by omega) h'
theorem mY (L:List aH) (v most:Int):sJ L v most L.length (dB L v most):=tN L v most L.length
theorem Cj {L:List aH} {v most:Int} {k:Nat} {a b:Int} (ha:sJ L v most k a) (hb:sJ L v most k b):a=b:=by
 rcases ha with⟨rfl,h⟩ | ⟨h1,h2,h3,h4⟩
 ·rcases hb with⟨rfl,_⟩ | ⟨g1,g2,g3,_⟩
  ·rfl
  ·rw[h b.toNat (by omega)]at g3;cases g3
 ·rcases hb with⟨rfl,g⟩ | ⟨g1,g2,g3,g4⟩
  ·rw[g a.toNat (by omega)]at h3;cases h3
  ·have e1:=h4 b.toNat (by omega) g3
   have e2:=g4 a.toNat (by omega) h3
   omega
theorem wU {L:List aH} {v most w:Int} (h:sJ L v most L.length w) (hw:0≤w):w.toNat < L.length:=by
 rcases h with⟨rfl,_⟩ | ⟨h1,h2,_⟩ <;> omega
def DF (L:List aH):Nat→Int
 | 0=>0
 | k+1=>max (DF L k) (L.getD k aH.zero).wv
def qP (L:List aH):Int:=DF L L.length
theorem Iq (L:List aH):∀ k i,i < k→(L.getD i aH.zero).wv≤DF L k
 | 0,i,h=>absurd h (Nat.not_lt_zero _)
 | k+1,i,h=>by
  unfold DF
  by_cases he:i=k
  ·subst he;omega
  ·have:=Iq L k i (by omega);omega
def lX (L:List aH) (vars:List Int):List Nat:=vars.filterMap fun v=>if 0≤dB L v (qP L)then some (dB L v (qP L)).toNat else none
def nI (a:aH):Bool:=decide (0 < a.wv)&&decide (a.dI=-1)
def BH (L:List aH):List Nat:=(List.range L.length).filter fun i=>nI (L.getD i aH.zero)
def roots (L:List aH) (vars:List Int):List Nat:=lX L vars++BH L
def l9 (L:List aH) (a:aH):List Nat:=a.reads.filterMap fun p=>if 0≤dB L p.1 a.rv then some (dB L p.1 a.rv).toNat else none
def mP (a b:aH):Bool:=b.com&&decide (b.th=a.th)&&decide (b.tx < a.tx)
def zH (L:List aH) (a:aH):List Nat:=(List.range L.length).filter fun i=>mP a (L.getD i aH.zero)
def asked (L:List aH) (a:aH):List Nat:=l9 L a++zH L a
theorem EL {L:List aH} {a:aH} {j:Nat} (h:j∈asked L a):j < L.length:=by
 rcases List.mem_append.1 h with h | h
 ·obtain⟨p,_,hp⟩:=List.mem_filterMap.1 h
  split at hp
  ·cases hp;exact wU (mY L p.1 a.rv) (by assumption)
  ·cases hp
 ·exact List.mem_range.1 (List.mem_filter.1 h).1
theorem pJ {L:List aH} {vars:List Int} {j:Nat} (h:j∈roots L vars):j < L.length:=by
 rcases List.mem_append.1 h with h | h
 ·obtain⟨v,_,hp⟩:=List.mem_filterMap.1 h
  split at hp
  ·cases hp;exact wU (mY L v (qP L)) (by assumption)
  ·cases hp
 ·exact List.mem_range.1 (List.mem_filter.1 h).1
inductive Reach (L:List aH) (R:Nat→Prop):Nat→Prop
 | root {i:Nat}:R i→Reach L R i
 | step {i j:Nat}:Reach L R i→j∈asked L (L.getD i aH.zero)→Reach L R j
theorem Reach.mono {L:List aH} {R R':Nat→Prop} (h:∀ i,R i→Reach L R' i):∀ {i},Reach L R i→Reach L R' i
 | _,.root hr=>h _ hr
 | _,.step hi hj=>.step (Reach.mono h hi) hj
def gQ (l:List Nat):Prop:=l.Pairwise (· < ·)
def fE (l:List Nat) (i:Nat):Nat:=l.countP fun j=>decide (j < i)
def qK (l:List Nat) (i:Nat):List Nat:=l.take (fE l i)++i :: l.drop (fE l i)
theorem wB (l:List Nat) (i:Nat):fE l i≤l.length:=List.countP_le_length
theorem wQ (x:Nat) (l:List Nat) (i:Nat):fE (x :: l) i=fE l i+if x < i then 1 else 0:=by
 unfold fE
 rw[List.countP_cons]
 simp
theorem wP {l:List Nat} {x i:Nat} (h:gQ (x :: l)) (hx:¬ x < i):fE (x :: l) i=0:=by
 unfold fE
 rw[List.countP_eq_zero]
 intro j hj
 rcases List.mem_cons.1 hj with rfl | hj
 ·simpa using hx
 ·have:=(List.pairwise_cons.1 h).1 j hj
  simp
  omega
theorem ry:∀ {l:List Nat} {i:Nat},gQ l→(∀ k (h:k < l.length),k < fE l i→l[k] < i)∧(∀ k (h:k < l.length),fE l i≤k→i≤l[k])
 | [],i,_=>⟨fun k h=>absurd h (Nat.not_lt_zero _),fun k h=>absurd h (Nat.not_lt_zero _)⟩
 | x :: l,i,hs=>by
  have hs':=(List.pairwise_cons.1 hs)
  by_cases hx:x < i
  ·obtain⟨h1,h2⟩:=ry (i:=i) hs'.2
   rw[wQ,if_pos hx]
   refine⟨fun k hk hl=>?_,fun k hk hl=>?_⟩
   ·cases k with
    | zero=>exact hx
    | succ k=>exact h1 k (by simpa using hk) (by omega)
   ·cases k with
    | zero=>omega
    | succ k=>exact h2 k (by simpa using hk) (by omega)
  ·rw[wP hs hx]
   refine⟨fun k hk hl=>absurd hl (Nat.not_lt_zero _),fun k hk _=>?_⟩
   cases k with
   | zero=>show i≤x;omega
   | succ k=>
    have:=hs'.1 (l[k]'(by simpa using hk)) (List.getElem_mem _)
    show i≤l[k]'(by simpa using hk)
    omega
theorem nM {l:List Nat} {i j:Nat}:j∈qK l i↔j=i∨j∈l:=by
 unfold qK
 rw[List.mem_append,List.mem_cons]
 have:j∈l↔j∈l.take (fE l i)∨j∈l.drop (fE l i):=by
  rw[←List.mem_append,List.take_append_drop]
 rw[this]
 constructor
 ·rintro(h | h | h)
  ·exact .inr (.inl h)
  ·exact .inl h
  ·exact .inr (.inr h)
 ·rintro(h | h | h)
  ·exact .inr (.inl h)
  ·exact .inl h
  ·exact .inr (.inr h)
theorem uY (l:List Nat) (i:Nat):(qK l i).length=l.length+1:=by
 unfold qK
 have:=wB l i
 rw[List.length_append,List.length_cons,List.length_take,List.length_drop]
 omega
theorem CE {x i:Nat} {l:List Nat} (h:x < i):qK (x :: l) i=x :: qK l i:=by
 unfold qK
 rw[wQ,if_pos h]
 rfl
theorem wV:∀ {l:List Nat} {i:Nat},gQ l→i∉l→gQ (qK l i)
 | [],i,_,_=>List.pairwise_singleton _ _
 | x :: l,i,hs,hn=>by
  have hs':=List.pairwise_cons.1 hs
  by_cases hx:x < i
  ·rw[CE hx]
   refine List.pairwise_cons.2 ⟨fun j hj=>?_,wV hs'.2 (fun h=>hn (List.mem_cons_of_mem _ h))⟩
   rcases nM.1 hj with rfl | hj
   ·exact hx
   ·exact hs'.1 j hj
  ·unfold qK
   rw[wP hs hx]
   refine List.pairwise_cons.2 ⟨fun j hj=>?_,hs⟩
   have hne:i≠x:=fun e=>hn (by rw[e];exact List.mem_cons_self ..)
   rcases List.mem_cons.1 hj with rfl | hj
   ·omega
   ·have:=hs'.1 j hj;omega
theorem wO {n:Nat}:∀ {l:List Nat} {b:Nat},gQ l→(∀ i∈l,b≤i∧i < n)→b≤n→l.length≤n-b
 | [],b,_,_,_=>Nat.zero_le _
 | x :: l,b,hs,hl,hb=>by
  have hs':=List.pairwise_cons.1 hs
  have hx:=hl x (List.mem_cons_self ..)
  have:=wO (b:=x+1) hs'.2 (fun i hi=>⟨hs'.1 i hi,(hl i (List.mem_cons_of_mem _ hi)).2⟩) (by omega)
  rw[List.length_cons]
  omega
theorem tX {n:Nat} {l:List Nat} (hs:gQ l) (hl:∀ i∈l,i < n):l.length≤n:=wO (b:=0) hs (fun i hi=>⟨Nat.zero_le _,hl i hi⟩) (Nat.zero_le _)
theorem FW {l m:List Nat} (hl:gQ l) (hm:gQ m) (h:∀ i,i∈l↔i∈m):l=m:=by
 have p:l.Perm m:=(List.perm_ext_iff_of_nodup (hl.imp (fun h=>Nat.ne_of_lt h)) (hm.imp (fun h=>Nat.ne_of_lt h))).2 h
 exact p.eq_of_pairwise (le:=(· < ·)) (fun a b _ _ h1 h2=>absurd h1 (Nat.lt_asymm h2)) hl hm
structure lT (L:List aH) (R:Nat→Prop) (todo out:List Nat):Prop where
 sorted:gQ out
 Gi:∀ i∈out,Reach L R i
 todoR:∀ i∈todo,Reach L R i
 root:∀ i,R i→i∈out∨i∈todo
 step:∀ i∈out,∀ j∈asked L (L.getD i aH.zero),j∈out∨j∈todo
theorem lT.skip {L:List aH} {R:Nat→Prop} {i:Nat} {todo out:List Nat} (h:lT L R (i :: todo) out) (hi:i∈out):lT L R todo out where
 sorted:=h.sorted
 Gi:=h.Gi
 todoR j hj:=h.todoR j (List.mem_cons_of_mem _ hj)
 root j hj:=by
  rcases h.root j hj with h1 | h1
  ·exact .inl h1
  ·rcases List.mem_cons.1 h1 with rfl | h1
   ·exact .inl hi
   ·exact .inr h1
 step k hk j hj:=by
  rcases h.step k hk j hj with h1 | h1
  ·exact .inl h1
  ·rcases List.mem_cons.1 h1 with rfl | h1
   ·exact .inl hi
   ·exact .inr h1
theorem lT.take {L:List aH} {R:Nat→Prop} {i:Nat} {todo out:List Nat} (h:lT L R (i :: todo) out) (hi:i∉out):lT L R (todo++asked L (L.getD i aH.zero)) (qK out i) where
 sorted:=wV h.sorted hi
 Gi j hj:=by
  rcases nM.1 hj with rfl | hj
  ·exact h.todoR _ (List.mem_cons_self ..)
  ·exact h.Gi j hj
 todoR j hj:=by
  rcases List.mem_append.1 hj with hj | hj
  ·exact h.todoR j (List.mem_cons_of_mem _ hj)
  ·exact .step (h.todoR _ (List.mem_cons_self ..)) hj
 root j hj:=by
  rcases h.root j hj with h1 | h1
  ·exact .inl (nM.2 (.inr h1))
  ·rcases List.mem_cons.1 h1 with rfl | h1
   ·exact .inl (nM.2 (.inl rfl))
   ·exact .inr (List.mem_append_left _ h1)
 step k hk j hj:=by
  rcases nM.1 hk with rfl | hk
  ·exact .inr (List.mem_append_right _ hj)
  ·rcases h.step k hk j hj with h1 | h1
   ·exact .inl (nM.2 (.inr h1))
   ·rcases List.mem_cons.1 h1 with rfl | h1
    ·exact .inl (nM.2 (.inl rfl))
    ·exact .inr (List.mem_append_left _ h1)
theorem lT.done {L:List aH} {R:Nat→Prop} {out:List Nat} (h:lT L R [] out):∀ i,i∈out↔Reach L R i:=by
 intro i
 constructor
 ·exact h.Gi i
 ·intro hr
  induction hr with
  | root hr=>
   rcases h.root _ hr with h1 | h1
   ·exact h1
   ·exact absurd h1 (List.not_mem_nil)
  | step _ hj ih=>
   rcases h.step _ ih _ hj with h1 | h1
   ·exact h1
   ·exact absurd h1 (List.not_mem_nil)
theorem lT.start (L:List aH) (vars:List Int):lT L (·∈roots L vars) (roots L vars) [] where
 sorted:=List.Pairwise.nil
 Gi i hi:=absurd hi (List.not_mem_nil)
 todoR i hi:=.root hi
 root i hi:=.inr hi
 step i hi:=absurd hi (List.not_mem_nil)
theorem uK {L:List aH} {R:Nat→Prop} (hR:∀ i,R i→i < L.length):∀ {i},Reach L R i→i < L.length
 | _,.root h=>hR _ h
 | _,.step _ h=>EL h
def sH (L:List aH) (vars:List Int) (K:List Nat):Prop:=gQ K∧∀ i,i∈K↔Reach L (·∈roots L vars) i
theorem sH.lt {L:List aH} {vars:List Int} {K:List Nat} (h:sH L vars K):∀ i∈K,i < L.length:=fun i hi=>uK (fun _=>pJ) ((h.2 i).1 hi)
theorem sH.one {L:List aH} {vars:List Int} {K K':List Nat} (h:sH L vars K) (h':sH L vars K'):K=K':=FW h.1 h'.1 (fun i=>(h.2 i).trans (h'.2 i).symm)
end Go.Proofs.YtcddlnmcjmhbcaaDoor
namespace Go.Proofs.YtcddlnmcjmhbcaaDoor
set_option linter.unusedVariables false
set_option linter.unusedSimpArgs false
def Eb (L:List aH):Nat→List Nat→List Nat→List Nat
 | 0,_,out=>out
 | _+1,[],out=>out
 | n+1,i :: todo,out=>if i∈out then Eb L n todo out else Eb L n (todo++asked L (L.getD i aH.zero)) (qK out i)
def JX:List Nat→Nat
 | []=>0
 | n :: l=>max n (JX l)
theorem IK:∀ {l:List Nat} {n:Nat},n∈l→n≤JX l
 | m :: l,n,h=>by
  unfold JX
  rcases List.mem_cons.1 h with rfl | h
  ·omega
  ·have:=IK h;omega
theorem IJ {B:Nat}:∀ {l:List Nat},(∀ n∈l,n≤B)→JX l≤B
 | [],_=>Nat.zero_le _
 | m :: l,h=>by
  unfold JX
  have:=h m (List.mem_cons_self ..)
  have:=IJ (l:=l) (fun n hn=>h n (List.mem_cons_of_mem _ hn))
  omega
def oq (L:List aH):Nat:=JX (L.map fun a=>(asked L a).length)
theorem Jc {L:List aH} {i:Nat} (h:i < L.length):(asked L (L.getD i aH.zero)).length≤oq L:=by
 refine IK (List.mem_map.2 ⟨L[i],List.getElem_mem h,?_⟩)
 rw[List.getD_eq_getElem?_getD,List.getElem?_eq_getElem h];rfl
theorem tK {α β:Type} (f:α→Option β) (l:List α):(l.filterMap f).length≤l.length:=List.length_filterMap_le _ _
theorem KR (L:List aH) (a:aH):(asked L a).length≤a.reads.length+L.length:=by
 unfold asked l9 zH
 rw[List.length_append]
 have h1:=tK (fun p:Int×Int=>if 0≤dB L p.1 a.rv then some (dB L p.1 a.rv).toNat else none) a.reads
 have h2:=List.length_filter_le (fun i=>mP a (L.getD i aH.zero)) (List.range L.length)
 rw[List.length_range]at h2
 omega
theorem Au (L:List aH) (vars:List Int):(roots L vars).length≤vars.length+L.length:=by
 unfold roots lX BH
 rw[List.length_append]
 have h1:=tK (fun v:Int=>if 0≤dB L v (qP L)then some (dB L v (qP L)).toNat else none) vars
 have h2:=List.length_filter_le (fun i=>nI (L.getD i aH.zero)) (List.range L.length)
 rw[List.length_range]at h2
 omega
theorem Jb {L:List aH} {B:Nat} (h:∀ a∈L,a.reads.length≤B):oq L≤B+L.length:=by
 refine IJ fun n hn=>?_
 obtain⟨a,ha,rfl⟩:=List.mem_map.1 hn
 have:=KR L a
 have:=h a ha
 omega
theorem BR {L:List aH} {R:Nat→Prop} (hR:∀ i,R i→i < L.length) {todo out:List Nat} (h:lT L R todo out):out.length≤L.length:=tX h.sorted (fun i hi=>uK hR (h.Gi i hi))
theorem Ad {a b n A t s:Nat} (h1:b=a+1) (h2:b≤n) (hs:s≤A):(n-b)*(A+1)+(t+s) < (n-a)*(A+1)+(t+1):=by
 obtain⟨d,rfl⟩:∃ d,n=b+d:=⟨n-b,by omega⟩
 subst h1
 have e1:a+1+d-(a+1)=d:=by omega
 have e2:a+1+d-a=d+1:=by omega
 rw[e1,e2,Nat.succ_mul]
 omega
theorem yO {L:List aH} {R:Nat→Prop} (hR:∀ i,R i→i < L.length):∀ (n:Nat) (todo out:List Nat),lT L R todo out→(L.length-out.length)*(oq L+1)+todo.length≤n→lT L R [] (Eb L n todo out)
 | 0,todo,out,h,hm=>by
  have:todo=[]:=List.eq_nil_of_length_eq_zero (by omega)
  subst this
  exact h
 | n+1,[],out,h,hm=>h
 | n+1,i :: todo,out,h,hm=>by
  unfold Eb
  rw[List.length_cons]at hm
  by_cases hi:i∈out
  ·rw[if_pos hi]
   exact yO hR n todo out (h.skip hi) (by omega)
  ·rw[if_neg hi]
   have h':=h.take hi
   have hl:=BR hR h'
   have hil:i < L.length:=uK hR (h.todoR i (List.mem_cons_self ..))
   refine yO hR n _ _ h' ?_
   rw[List.length_append]
   have:=Ad (t:=todo.length) (uY out i) hl (Jc hil)
   omega
def kQ (L:List aH) (vars:List Int):List Nat:=Eb L (L.length*(oq L+1)+(roots L vars).length) (roots L vars) []
theorem lM (L:List aH) (vars:List Int):sH L vars (kQ L vars):=by
 have h:=yO (L:=L) (R:=(·∈roots L vars)) (fun _=>pJ) (L.length*(oq L+1)+(roots L vars).length) (roots L vars) [] (lT.start L vars) (by simp)
 exact⟨h.sorted,h.done⟩
theorem Gs {L:List aH} {vars:List Int} {out:List Nat} (h:lT L (·∈roots L vars) [] out):out=kQ L vars:=sH.one (L:=L) (vars:=vars) ⟨h.sorted,h.done⟩ (lM L vars)
end Go.Proofs.YtcddlnmcjmhbcaaDoor
namespace Go.Proofs.YtcddlnmcjmhbcaaDoor
set_option linter.unusedVariables false
set_option linter.unusedSimpArgs false
open Go Go.RowKit
def tu (n:Int):Prop:=-9223372036854775808≤n∧n≤9223372036854775807
def fJ (w:World) (l:List (Int×Int)) (v:Value):Prop:=
 ∃ a cap,v=.slice a l.length cap∧l.length≤9223372036854775807∧(∀ p∈l,tu p.1∧tu p.2)∧(l≠[]→∃ b o,a=some ⟨b,o,none⟩∧∀ k (h:k < l.length),w.cell? ⟨b,o+k*2,none⟩=some (.int .i64 l[k].1)∧w.cell? ⟨b,o+k*2+1,none⟩=some (.int .i64 l[k].2))
structure UX (a:aH):Prop where
 th:tu a.th
 tx:tu a.tx
 from_:tu a.from_
 dI:tu a.dI
 rv:tu a.rv
 wv:tu a.wv
structure OM (w:World) (b o:Nat) (a:aH) (r u:Value):Prop where
 ok:UX a
 c0:w.cell? ⟨b,o,none⟩=some (.int .i64 a.th)
 c1:w.cell? ⟨b,o+1,none⟩=some (.int .i64 a.tx)
 c2:w.cell? ⟨b,o+2,none⟩=some (.int .i64 a.from_)
 c3:w.cell? ⟨b,o+3,none⟩=some (.int .i64 a.dI)
 c4:w.cell? ⟨b,o+4,none⟩=some (.int .i64 a.rv)
 c5:w.cell? ⟨b,o+5,none⟩=some (.int .i64 a.wv)
 c6:w.cell? ⟨b,o+6,none⟩=some (.bool a.com)
 c7:w.cell? ⟨b,o+7,none⟩=some r
 c8:w.cell? ⟨b,o+8,none⟩=some u
 reads:fJ w a.reads r
 writes:fJ w a.writes u
def jq (w:World) (L:List aH) (v:Value):Prop:=
 ∃ a cap,v=.slice a L.length cap∧L.length≤9223372036854775807∧(L≠[]→∃ b o,a=some ⟨b,o,none⟩∧∀ k (h:k < L.length),∃ r u,OM w b (o+k*9) L[k] r u)
theorem fJ.below {w w':World} (hb:Below w.heap.size w w') {l:List (Int×Int)} {v:Value} (h:fJ w l v):fJ w' l v:=by
 obtain⟨a,cap,h1,h2,h3,h4⟩:=h
 refine⟨a,cap,h1,h2,h3,fun hn=>?_⟩
 obtain⟨b,o,h5,h6⟩:=h4 hn
 exact⟨b,o,h5,fun k hk=>⟨later hb (h6 k hk).1,later hb (h6 k hk).2⟩⟩
theorem OM.below {w w':World} (hb:Below w.heap.size w w') {b o:Nat} {a:aH} {r u:Value} (h:OM w b o a r u):OM w' b o a r u:=
 ⟨h.ok,later hb h.c0,later hb h.c1,later hb h.c2,later hb h.c3,later hb h.c4,later hb h.c5,later hb h.c6,later hb h.c7,later hb h.c8,h.reads.below hb,h.writes.below hb⟩
theorem jq.below {w w':World} (hb:Below w.heap.size w w') {L:List aH} {v:Value} (h:jq w L v):jq w' L v:=by
 obtain⟨a,cap,h1,h2,h4⟩:=h
 refine⟨a,cap,h1,h2,fun hn=>?_⟩
 obtain⟨b,o,h5,h6⟩:=h4 hn
 refine⟨b,o,h5,fun k hk=>?_⟩
 obtain⟨r,u,h7⟩:=h6 k hk
 exact⟨r,u,h7.below hb⟩
theorem fJ.shape {w:World} {l:List (Int×Int)} {v:Value} (h:fJ w l v):∃ a cap,v=.slice a l.length cap:=by
 obtain⟨a,cap,h1,_⟩:=h
 exact⟨a,cap,h1⟩
end Go.Proofs.YtcddlnmcjmhbcaaDoor
namespace Go.Proofs.YtcddlnmcjmhbcaaDoor
set_option linter.unusedVariables false
set_option linter.unusedSimpArgs false
def AU (K:List Nat) (o:Int):Bool:=decide (0≤o)&&decide (o.toNat∈K)
def mO (l:List Ev) (K:List Nat) (k:Nat):List Ev:=(List.range k).filterMap fun i=>if AU K (mD l i)=true then l[i]? else none
theorem ED (l:List Ev) (K:List Nat) (k:Nat) (hk:k < l.length):mO l K (k+1)=mO l K k++(if AU K (mD l k)=true then[l[k]'hk]else[]):=by
 unfold mO
 rw[List.range_succ,List.filterMap_append]
 congr 1
 split
 ·rename_i h;simp[h,List.getElem?_eq_getElem hk]
 ·rename_i h;simp[h]
end Go.Proofs.YtcddlnmcjmhbcaaDoor
namespace Go.Proofs.YtcddlnmcjmhbcaaDoor
set_option linter.unusedVariables false
set_option linter.unusedSimpArgs false
def iZ (a:aH) (v:Int):Bool:=Fz a v&&decide (0 < a.wv)
def jE (a:aH) (most:Int):Bool:=decide (0≤most)&&decide (most < a.wv)
def jW (L:List aH) (i:Nat) (v most:Int) (k:Nat):Bool:=
 !(decide (k=i)||!iZ (L.getD k aH.zero) v||jE (L.getD k aH.zero) most)&&(decide ((L.getD i aH.zero).wv < (L.getD k aH.zero).wv)||decide ((L.getD k aH.zero).wv=(L.getD i aH.zero).wv)&&decide (k < i))
def dG (L:List aH) (i:Nat) (v most:Int):Bool:=
 !(!iZ (L.getD i aH.zero) v||jE (L.getD i aH.zero) most)&&(List.range L.length).all fun k=>!jW L i v most k
theorem wZ {L:List aH} {v most m:Int} (hc:∀ i,i < L.length→rY (L.getD i aH.zero) v m=(iZ (L.getD i aH.zero) v&&!jE (L.getD i aH.zero) most)) {i:Nat} (hi:i < L.length):dG L i v most=true↔dB L v m=i:=by
 have hci:=hc i hi
 constructor
 ·intro h
  unfold dG at h
  rw[Bool.and_eq_true]at h
  obtain⟨h1,h2⟩:=h
  have VS:rY (L.getD i aH.zero) v m=true:=by rw[hci];simpa using h1
  refine Cj (mY L v m) (.inr ⟨by omega,by omega,by rw[Int.toNat_natCast];exact VS,fun k hk hk'=>?_⟩)
  rw[Int.toNat_natCast]
  rw[hc k hk]at hk'
  have h3:=List.all_eq_true.1 h2 k (List.mem_range.2 hk)
  unfold jW at h3
  by_cases hki:k=i
  ·subst hki;exact .inr ⟨rfl,Int.le_refl _⟩
  ·rw[Bool.and_eq_true]at hk'
   obtain⟨g1,g2⟩:=hk'
   have g2':jE (L.getD k aH.zero) most=false:=by simpa using g2
   rw[decide_eq_false hki,g1,g2']at h3
   simp only[Bool.not_true,Bool.or_false,Bool.not_false,Bool.true_and,Bool.not_eq_true',Bool.or_eq_false_iff,Bool.and_eq_false_iff,decide_eq_false_iff_not]at h3
   omega
 ·intro h
  rcases mY L v m with⟨h0,-⟩ | ⟨g1,g2,g3,g4⟩
  ·omega
  ·rw[h,Int.toNat_natCast]at g3 g4
   rw[hci]at g3
   unfold dG
   rw[Bool.and_eq_true]
   refine⟨by simpa using g3,List.all_eq_true.2 fun k hk=>?_⟩
   have hk':=List.mem_range.1 hk
   unfold jW
   by_cases hki:k=i
   ·subst hki;simp
   ·cases hw:(iZ (L.getD k aH.zero) v&&!jE (L.getD k aH.zero) most)with
    | false=>
     have:(!(decide (k=i)||!iZ (L.getD k aH.zero) v||jE (L.getD k aH.zero) most))=false:=by
      revert hw
      cases iZ (L.getD k aH.zero) v <;> cases jE (L.getD k aH.zero) most <;> simp
     rw[this];rfl
    | true=>
     have h5:=g4 k hk' (by rw[hc k hk'];exact hw)
     have h6:¬ ((L.getD i aH.zero).wv < (L.getD k aH.zero).wv):=by omega
     have h7:¬ ((L.getD k aH.zero).wv=(L.getD i aH.zero).wv∧k < i):=by omega
     rw[decide_eq_false h6]
     have:(decide ((L.getD k aH.zero).wv=(L.getD i aH.zero).wv)&&decide (k < i))=false:=by
      rw[Bool.and_eq_false_iff]
      by_cases h8:(L.getD k aH.zero).wv=(L.getD i aH.zero).wv
      ·right;exact decide_eq_false (fun h9=>h7 ⟨h8,h9⟩)
      ·left;exact decide_eq_false h8
     rw[this];simp
theorem wY {L:List aH} {v most:Int} (hm:0≤most) {i:Nat} (hi:i < L.length):dG L i v most=true↔dB L v most=i:=by
 refine wZ (fun k _=>?_) hi
 unfold rY iZ jE
 rw[decide_eq_true hm]
 by_cases h1:0 < (L.getD k aH.zero).wv
 ·by_cases h2:(L.getD k aH.zero).wv≤most
  ·rw[decide_eq_true h1,decide_eq_true h2,decide_eq_false (show ¬ most < (L.getD k aH.zero).wv by omega)];simp
  ·rw[decide_eq_true h1,decide_eq_false h2,decide_eq_true (show most < (L.getD k aH.zero).wv by omega)];simp
 ·rw[decide_eq_false h1];simp
theorem zA {L:List aH} {v:Int} {i:Nat} (hi:i < L.length):dG L i v (-1)=true↔dB L v (qP L)=i:=by
 refine wZ (fun k hk=>?_) hi
 unfold rY iZ jE
 have ht:(L.getD k aH.zero).wv≤qP L:=Iq L L.length k hk
 rw[decide_eq_true ht,decide_eq_false (show ¬ (0:Int)≤-1 by omega)]
 cases Fz (L.getD k aH.zero) v <;> simp
def oQ (L:List aH) (a b:Nat):Bool:=
 mP (L.getD a aH.zero) (L.getD b aH.zero)||(L.getD a aH.zero).reads.any fun p=>decide (0≤(L.getD a aH.zero).rv)&&dG L b p.1 (L.getD a aH.zero).rv
theorem Dw {L:List aH} {v most:Int} (h:most < 0):dB L v most=-1:=by
 rcases mY L v most with⟨h0,-⟩ | ⟨g1,g2,g3,g4⟩
 ·exact h0
 ·unfold rY at g3
  simp at g3
  omega
theorem zG {L:List aH} {a b:Nat} (hb:b < L.length):oQ L a b=true↔b∈asked L (L.getD a aH.zero):=by
 unfold oQ asked
 rw[Bool.or_eq_true,List.mem_append]
 have h1:mP (L.getD a aH.zero) (L.getD b aH.zero)=true↔b∈zH L (L.getD a aH.zero):=by
  unfold zH
  rw[List.mem_filter]
  exact⟨fun h=>⟨List.mem_range.2 hb,h⟩,fun h=>h.2⟩
 have h2:(((L.getD a aH.zero).reads.any fun p=>decide (0≤(L.getD a aH.zero).rv)&&dG L b p.1 (L.getD a aH.zero).rv)=true)↔b∈l9 L (L.getD a aH.zero):=by
  unfold l9
  rw[List.any_eq_true,List.mem_filterMap]
  constructor
  ·rintro⟨p,hp,h⟩
   rw[Bool.and_eq_true,decide_eq_true_iff]at h
   refine⟨p,hp,?_⟩
   rw[(wY h.1 hb).1 h.2,if_pos (by omega),Int.toNat_natCast]
  ·rintro⟨p,hp,h⟩
   split at h
   ·rename_i hw
    have qL:0≤(L.getD a aH.zero).rv:=by
     rcases Int.lt_or_le (L.getD a aH.zero).rv 0 with h0 | h0
     ·rw[Dw h0]at hw;omega
     ·exact h0
    refine⟨p,hp,?_⟩
    rw[Bool.and_eq_true,decide_eq_true_iff]
    refine⟨qL,(wY qL hb).2 ?_⟩
    have:=Option.some.inj h
    omega
   ·cases h
 rw[h1,h2]
 exact Or.comm
def Dl (L:List aH) (vars:List Int) (i:Nat):Bool:=nI (L.getD i aH.zero)||vars.any fun v=>dG L i v (-1)
theorem Ee {L:List aH} {vars:List Int} {i:Nat} (hi:i < L.length):Dl L vars i=true↔i∈roots L vars:=by
 unfold Dl roots
 rw[Bool.or_eq_true,List.mem_append]
 have h1:nI (L.getD i aH.zero)=true↔i∈BH L:=by
  unfold BH
  rw[List.mem_filter]
  exact⟨fun h=>⟨List.mem_range.2 hi,h⟩,fun h=>h.2⟩
 have h2:((vars.any fun v=>dG L i v (-1))=true)↔i∈lX L vars:=by
  unfold lX
  rw[List.any_eq_true,List.mem_filterMap]
  constructor
  ·rintro⟨v,hv,h⟩
   exact⟨v,hv,by rw[(zA hi).1 h,if_pos (by omega),Int.toNat_natCast]⟩
  ·rintro⟨v,hv,h⟩
   split at h
   ·refine⟨v,hv,(zA hi).2 ?_⟩
    have:=Option.some.inj h
    omega
   ·cases h
 rw[h1,h2]
 exact Or.comm
def pM (L:List aH) (a b:Nat) (f:Nat→Bool):Nat→Bool:=if f a&&!f b&&oQ L a b then fun i=>if i=b then true else f i else f
def vZ (L:List aH) (a:Nat) (f:Nat→Bool):Nat→Nat→Bool
 | 0=>f
 | b+1=>pM L a b (vZ L a f b)
def pK (L:List aH) (f:Nat→Bool):Nat→Nat→Bool
 | 0=>f
 | a+1=>vZ L a (pK L f a) L.length
def gB (L:List aH) (f:Nat→Bool):Nat→Nat→Bool
 | 0=>f
 | t+1=>pK L (gB L f t) L.length
def IL (L:List aH) (vars:List Int):List Nat:=(List.range L.length).filter (gB L (Dl L vars) L.length)
section
variable {L:List aH} {a b:Nat} {f:Nat→Bool}
theorem yz {i:Nat} (h:f i=true):pM L a b f i=true:=by
 unfold pM
 split
 ·dsimp only;split
  ·rfl
  ·exact h
 ·exact h
theorem Gg (h:f a=true) (hk:oQ L a b=true):pM L a b f b=true:=by
 unfold pM
 cases hb:f b with
 | true=>simp[h,hb]
 | false=>simp[h,hb,hk]
theorem vY (k:Nat) {i:Nat} (h:f i=true):vZ L a f k i=true:=by
 induction k with
 | zero=>exact h
 | succ k ih=>exact yz ih
theorem Pv {k k':Nat} (hk:k≤k') {i:Nat} (h:vZ L a f k i=true):vZ L a f k' i=true:=by
 induction hk with
 | refl=>exact h
 | step _ ih=>exact yz ih
theorem Jt {n:Nat} (hb:b < n) (h:f a=true) (hk:oQ L a b=true):vZ L a f n b=true:=Pv (k:=b+1) hb (Gg (vY b h) hk)
theorem qj (k:Nat) {i:Nat} (h:f i=true):pK L f k i=true:=by
 induction k with
 | zero=>exact h
 | succ k ih=>exact vY _ ih
theorem Md {k k':Nat} (hk:k≤k') {i:Nat} (h:pK L f k i=true):pK L f k' i=true:=by
 induction hk with
 | refl=>exact h
 | step _ ih=>exact vY _ ih
theorem Gf {n:Nat} (ha:a < n) (hb:b < L.length) (h:f a=true) (hk:oQ L a b=true):pK L f n b=true:=Md (k:=a+1) ha (Jt hb (qj a h) hk)
theorem DC (k:Nat) {i:Nat} (h:f i=true):gB L f k i=true:=by
 induction k with
 | zero=>exact h
 | succ k ih=>exact qj _ ih
theorem FO {P:Nat→Prop} (hf:∀ i,f i=true→P i) (hP:∀ a b,a < L.length→b < L.length→P a→oQ L a b=true→P b):∀ (t:Nat) i,gB L f t i=true→P i:=by
 have h1:∀ (g:Nat→Bool),(∀ i,g i=true→P i)→∀ a b,a < L.length→b < L.length→∀ i,pM L a b g i=true→P i:=by
  intro g hg a b ha hb i h
  unfold pM at h
  split at h
  ·rename_i hc
   simp only[Bool.and_eq_true]at hc
   by_cases hib:i=b
   ·rw[hib];exact hP a b ha hb (hg a hc.1.1) hc.2
   ·simp[hib]at h;exact hg i h
  ·exact hg i h
 have h2:∀ (g:Nat→Bool),(∀ i,g i=true→P i)→∀ a k,a < L.length→k≤L.length→∀ i,vZ L a g k i=true→P i:=by
  intro g hg a k ha
  induction k with
  | zero=>exact fun _=>hg
  | succ k ih=>exact fun hk=>h1 _ (ih (by omega)) a k ha (by omega)
 have h3:∀ (g:Nat→Bool),(∀ i,g i=true→P i)→∀ k,k≤L.length→∀ i,pK L g k i=true→P i:=by
  intro g hg k
  induction k with
  | zero=>exact fun _=>hg
  | succ k ih=>exact fun hk=>h2 _ (ih (by omega)) k _ (by omega) (Nat.le_refl _)
 intro t
 induction t with
 | zero=>exact hf
 | succ t ih=>exact h3 _ ih _ (Nat.le_refl _)
def cntF (f:Nat→Bool):Nat→Nat
 | 0=>0
 | n+1=>cntF f n+if f n then 1 else 0
theorem I5 (f:Nat→Bool):∀ n,cntF f n≤n
 | 0=>Nat.le_refl _
 | n+1=>by unfold cntF;have:=I5 f n;split <;> omega
theorem Bd {f g:Nat→Bool} (h:∀ i,f i=true→g i=true):∀ n,cntF f n≤cntF g n
 | 0=>Nat.le_refl _
 | n+1=>by
  unfold cntF
  have:=Bd h n
  by_cases hf:f n=true
  ·rw[if_pos hf,if_pos (h n hf)];omega
  ·rw[if_neg hf];omega
theorem I4 {f g:Nat→Bool} (h:∀ i,f i=true→g i=true):∀ n,(∃ i,i < n∧f i=false∧g i=true)→cntF f n < cntF g n
 | 0,⟨i,hi,_⟩=>by omega
 | n+1,⟨i,hi,h1,h2⟩=>by
  unfold cntF
  by_cases hin:i=n
  ·subst hin
   have:=Bd h i
   rw[h1,if_pos h2]
   simp
   omega
  ·have:=I4 h n ⟨i,by omega,h1,h2⟩
   by_cases hf:f n=true
   ·rw[if_pos hf,if_pos (h n hf)];omega
   ·rw[if_neg hf];omega
theorem Be {f:Nat→Bool}:∀ n,n≤cntF f n→∀ i,i < n→f i=true
 | 0,_,i,hi=>by omega
 | n+1,h,i,hi=>by
  unfold cntF at h
  have:=I5 f n
  by_cases hf:f n=true
  ·rw[if_pos hf]at h
   by_cases hin:i=n
   ·rw[hin];exact hf
   ·exact Be n (by omega) i (by omega)
  ·rw[if_neg hf]at h;omega
def Dk (L:List aH) (f:Nat→Bool):Prop:=∀ a b,a < L.length→b < L.length→f a=true→oQ L a b=true→f b=true
theorem Et (h:Dk L f):∀ i,i < L.length→(pK L f L.length i=true↔f i=true):=by
 intro i hi
 refine⟨fun hp=>?_,qj _⟩
 have h2:∀ (g:Nat→Bool),(∀ i,i < L.length→g i=true→f i=true)→∀ a k,a < L.length→k≤L.length→∀ i,i < L.length→vZ L a g k i=true→f i=true:=by
  intro g hg a k ha
  induction k with
  | zero=>exact fun _=>hg
  | succ k ih=>
   intro hk i hi hr
   unfold vZ pM at hr
   split at hr
   ·rename_i hc
    simp only[Bool.and_eq_true]at hc
    by_cases hib:i=k
    ·rw[hib];exact h a k ha (by omega) (ih (by omega) a ha hc.1.1) hc.2
    ·simp[hib]at hr;exact ih (by omega) i hi hr
   ·exact ih (by omega) i hi hr
 have h3:∀ k,k≤L.length→∀ i,i < L.length→pK L f k i=true→f i=true:=by
  intro k
  induction k with
  | zero=>exact fun _ i _ h=>h
  | succ k ih=>exact fun hk=>h2 _ (ih (by omega)) k _ (by omega) (Nat.le_refl _)
 exact h3 _ (Nat.le_refl _) i hi hp
theorem turns_closed (L:List aH) (f:Nat→Bool):∀ t,Dk L (gB L f t)∨t≤cntF (gB L f t) L.length
 | 0=>.inr (Nat.zero_le _)
 | t+1=>by
  have hm:∀ i,gB L f t i=true→gB L f (t+1) i=true:=fun i=>qj _
  by_cases hs:∃ i,i < L.length∧gB L f t i=false∧gB L f (t+1) i=true
  ·rcases turns_closed L f t with h | h
   ·obtain⟨i,hi,h1,h2⟩:=hs
    have:=(Et h i hi).1 h2
    rw[h1]at this;cases this
   ·have:=I4 hm L.length hs
    exact .inr (by omega)
  ·left
   intro a b ha hb h1 h2
   have ha':gB L f t a=true:=by
    cases hx:gB L f t a with
    | true=>rfl
    | false=>exact absurd ⟨a,ha,hx,h1⟩ hs
   exact Gf ha hb ha' h2
theorem FN (L:List aH) (f:Nat→Bool):Dk L (gB L f L.length):=by
 rcases turns_closed L f L.length with h | h
 ·exact h
 ·exact fun a b ha hb _ _=>Be _ h b hb
end
theorem zT (p:Nat→Bool) (n:Nat):gQ ((List.range n).filter p):=List.Pairwise.filter _ List.pairwise_lt_range
theorem MZ (L:List aH) (vars:List Int):sH L vars (IL L vars):=by
 refine⟨zT _ _,fun i=>?_⟩
 unfold IL
 rw[List.mem_filter,List.mem_range]
 constructor
 ·rintro⟨hi,h⟩
  exact FO (L:=L) (f:=Dl L vars) (P:=fun i=>i < L.length→Reach L (·∈roots L vars) i) (fun i h hi=>.root ((Ee hi).1 h)) (fun a b ha hb hp hk _=>.step (hp ha) ((zG hb).1 hk)) L.length i h hi
 ·intro h
  induction h with
  | root hr=>
   have hi:=pJ hr
   exact⟨hi,DC _ ((Ee hi).2 hr)⟩
  | step hr hj ih=>
   have hjl:=EL hj
   exact⟨hjl,FN L _ _ _ ih.1 hjl ih.2 ((zG hjl).2 hj)⟩
theorem wS (L:List aH) (vars:List Int):IL L vars=kQ L vars:=(MZ L vars).one (lM L vars)
end Go.Proofs.YtcddlnmcjmhbcaaDoor
-- short
