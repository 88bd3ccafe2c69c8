/-
  Joined texts: Ow OwR RcW1 RcW2.
-/
import Derived.Test.YtcddlnmcjmhbcaaDoorRgG
import Derived.Maps.AppendAt
import Derived.OwnWalk
import Derived.Test.YtcddlnmcjmhbcaaDoorRgB
import Derived.Test.YtcddlnmcjmhbcaaDoorRgA
import Derived.Test.YtcddlnmcjmhbcaaDoorShV
import Derived.Laws.AppendOwnNone
namespace Go.Proofs.YtcddlnmcjmhbcaaDoor
set_option linter.unusedVariables false
open Go Go.RowKit
section
variable {P:Program}
theorem BG (w:World) (t ty e:TypeId) (i:TypeInfo) (size bytes:Nat) (ht:P.underlying t=some (.slice e)) (hi:P.info? e=some i) (hsize:i.size=size) (hby:i.bytes=bytes)
  (ad:Addr) (A:Option Addr) (m c:Nat) (hm:0 < m) (hbytes:m*bytes≤140737488355328):
  (Builtin.append_ #[t,t] ty #[.slice (some ad) 0 0,.slice A m c]).run P w=(Builtin.append_ #[t,t] ty #[.slice none 0 0,.slice A m c]).run P w:=by
 subst hsize;subst hby
 have h1:¬ m=0:=by omega
 have h2:¬ (Builtin.nextslicecap m 0*i.bytes > 281474976710656):=by
  have:Builtin.nextslicecap m 0=m:=by simp[Builtin.nextslicecap,hm]
  rw[this];omega
 simp[Builtin.append_,run_underlying ht,sizeOf,typeInfo,hi,Builtin.lenOf,Builtin.firstCells,h1,h2,loadCells,loadCellsFrom]
theorem fC {w:World} {base:Nat} {e:TypeId} {size:Nat} {v:Value} {n:Nat} {xs:List Value} (h:w.ownsRow base e size v n xs) {w':World} (hb:Below w.heap.size w w'):w'.ownsRow base e size v n xs:=
 h.kept (row:=none) ⟨hb.os,hb.tape,hb.output,hb.size,fun k hk _=>hb.block k hk⟩ (by cases v.ownBlock <;> simp)
theorem fA {w:World} {base:Nat} {e:TypeId} {size:Nat} {v:Value} {n:Nat} {xs:List Value} (h:w.ownsRow base e size v (n+1) xs):∃ g cap,v=.slice (some ⟨g,0,none⟩) (n+1) cap:=by
 rcases h.2 with⟨_,h0⟩ | ⟨g,cap,cur,hv,-⟩
 ·omega
 ·exact⟨g,cap,hv⟩
variable {w:World} {B o:Nat} {e:TypeId} {cs:Array Value} {tb:TypeId} {xs:List Value} {x:Value} {kn:Nat→Value} {l l':Nat→Bool} {v:Nat→Value} {w' w'':World}
end
section
variable {P:Program}
theorem bW {o:Oper} {ρ:Operand→Value} {w w':World} {R:Value→World→Prop} {s x:Operand} {t:TypeId} {vs vx v':Value}
  (ho:o.op=.call { callee:=.builtin .append,args:=#[s,x],argTypes:=#[t,t] }) (hs:ρ s=vs) (hx:ρ x=vx) (hrun:(Builtin.append_ #[t,t] o.type #[vs,vx]).run P w=.ok v' w') (h:R v' w'):aO P o ρ w R:=by
 unfold aO xE execOp
 simp only[ho,resolve,invoke,builtin,Sem.run_bind,Sem.run_pure,Result.andThen_ok,List.map_toArray,List.map_cons,List.map_nil,hs,hx,hrun]
 exact h
variable {ops:Array Oper} {Q:Exit→Act→World→Prop}
end
set_option linter.unusedSimpArgs false
section
variable {P:Program}
def bU (w:World) (base:Nat) (e:TypeId) (m:Nat) (v:Value) (n:Nat) (xs:List Value):Prop:=w.ownsRow base e m v n xs∧(n=0→v=.slice none 0 0)
theorem bU.nil (w:World) (base:Nat) (e:TypeId) (m:Nat):bU w base e m (.slice none 0 0) 0 []:=⟨World.ownsRow_nil w _ _ _,fun _=>rfl⟩
theorem bU.old {w w':World} {base:Nat} {e:TypeId} {m:Nat} {v:Value} {n:Nat} {xs:List Value} (h:bU w base e m v n xs) (hb:Below w.heap.size w w'):bU w' base e m v n xs:=⟨fC h.1 hb,h.2⟩
theorem bU.turn {w w':World} {base:Nat} {e:TypeId} {m:Nat} {v:Value} {n:Nat} {xs:List Value} {l:List Nat} (h:bU w base e m v n xs) (hb:Turn l w w') (hl:∀ k∈l,k < base):bU w' base e m v n xs:=by
 refine⟨?_,h.2⟩
 obtain⟨h1,h2⟩:=h.1
 refine⟨h1,?_⟩
 rcases h2 with h2 | ⟨g,cap,cur,rfl,hbg,hg,rest⟩
 ·exact Or.inl h2
 ·refine Or.inr ⟨g,cap,cur,rfl,hbg,?_,rest⟩
  rw[hb.block g (Array.getElem?_eq_some_iff.1 hg).1 (fun hm=>by have:=hl g hm;omega)];exact hg
theorem bU.wider {w:World} {base base':Nat} {e:TypeId} {m:Nat} {v:Value} {n:Nat} {xs:List Value} (h:bU w base e m v n xs) (hb:base'≤base):bU w base' e m v n xs:=by
 refine⟨?_,h.2⟩
 obtain⟨h1,h2⟩:=h.1
 refine⟨h1,?_⟩
 rcases h2 with h2 | ⟨g,cap,cur,rfl,hbg,rest⟩
 ·exact Or.inl h2
 ·exact Or.inr ⟨g,cap,cur,rfl,by omega,rest⟩
theorem add0 (g j:Nat):(⟨g,0,none⟩:Addr).add j=⟨g,j,none⟩:=by unfold Addr.add;split <;> simp_all
theorem bU.cases {w:World} {base:Nat} {e:TypeId} {m:Nat} {v:Value} {n:Nat} {xs:List Value} (h:bU w base e m v n xs):(n=0∧xs=[]∧v=.slice none 0 0)∨∃ g cap,v=.slice (some ⟨g,0,none⟩) n cap∧0 < n∧n≤cap∧base≤g∧xs.length=n*m∧∀ (j:Nat) (u:Value),xs[j]? =some u→w.cell? ⟨g,j,none⟩=some u:=by
 by_cases hx:n=0
 ·refine Or.inl ⟨hx,?_,h.2 hx⟩
  have:=h.1.1
  rw[hx,Nat.zero_mul]at this
  exact List.eq_nil_of_length_eq_zero this
 ·right
  rcases h.1.2 with⟨-,h0⟩ | ⟨g,cap,cur,rfl,hbg,hg,hc,-,-,ht⟩
  ·omega
  ·refine⟨g,cap,rfl,by omega,hc,hbg,h.1.1,fun j u hu=>?_⟩
   have hc:=h.1.cells (g:=g) rfl j u hu
   rwa [add0]at hc
theorem lG (w:World) (base:Nat) (t ty e:TypeId) (i:TypeInfo) (z:Value) (m bytes:Nat) (ht:P.underlying t=some (.slice e)) (hi:P.info? e=some i) (hz:i.zero=some z) (hsize:i.size=m) (hby:i.bytes=bytes) (hzs:z.cells.size=m) (hm:0 < m)
  (ad:Addr) (hown:w.ownsRow base e m (.slice (some ad) 0 0) 0 []) (v:Value) (n:Nat) (xs:List Value) {base':Nat} (hv:bU w base' e m v n xs) (h1:∀ u∈xs,u.oneCell'=true) (h63:n≤maxLen) (hbytes:n*bytes≤140737488355328) (hbase:base≤w.heap.size):
  ∃ v' w',(Builtin.append_ #[t,t] ty #[.slice (some ad) 0 0,v]).run P w=.ok v' w'∧Below w.heap.size w w'∧w'.ownsRow base e m v' n xs:=by
 rcases hv.cases with⟨rfl,rfl,rfl⟩ | ⟨g,cap,rfl,hp,hcap,hbg,hlen,hc⟩
 ·exact⟨_,w,run_append_owned_none w base t ty e i m ht hi _ 0 [] hown,af _,hown⟩
 ·obtain⟨v',w',hrun,hown',hg,-,-⟩:=run_append_own_at (P:=P) w base t ty e i z m bytes ht hi hz hsize hby hzs hm (.slice none 0 0) 0 [] (World.ownsRow_nil w _ _ _) ⟨g,0,none⟩ n cap xs hlen
   (fun j u hu=>by rw[add0];exact hc j u hu) h1 (by rw[Nat.zero_add];exact h63) (by rw[Nat.zero_add];exact hbytes) hbase
  rw[BG w t ty e i m bytes ht hi hsize hby ad (some ⟨g,0,none⟩) n cap hp hbytes,hrun]
  rw[Nat.zero_add,List.nil_append]at hown'
  exact⟨v',w',rfl,⟨hg.os,hg.tape,hg.output,hg.size,fun k hk=>hg.block k hk (by simp[Value.ownBlock])⟩,hown'⟩
structure AX (w:World) (B o:Nat) (e:TypeId) (m:Nat) (cs:Array Value) (tb:TypeId) (n:Nat) (xs x:List Value) (ks:List Nat) (kn:Nat→Value) (pE pA pB pC pS:Nat) (l:Nat→Bool) (v:Nat→Value) (w':World):Prop where
 ord:l pS=true→∀ i,i < pS→l i=true
 low:l pS=false→Below w.heap.size w w'
 kn:∀ i∈ks,l i=true→v i=kn i
 e1:l pE=true→l pA=false→∃ g,v pE=.slice (some ⟨g,0,none⟩) 0 0∧w'.ownsRow w.heap.size e m (v pE) 0 []
 e5:l pA=true→l pC=false→w'.ownsRow w.heap.size e m (v pA) n xs
 e8:l pB=true→l pC=false→∃ g,v pB=.slice (some ⟨g,0,none⟩) 1 1∧∀ (j:Nat) (u:Value),x[j]? =some u→w'.cell? ⟨g,j,none⟩=some u
 e9:l pC=true→l pS=false→w'.ownsRow w.heap.size e m (v pC) (n+1) (xs++x)
 fin:l pS=true→∃ v9,Turn [B] w w'∧aA w' B (cs.setIfInBounds o v9) tb∧bU w' w.heap.size e m v9 (n+1) (xs++x)
structure Apart (ks:List Nat) (pE pA pB pC pS:Nat):Prop where
 kE:∀ i∈ks,i≠pE∧i≠pA∧i≠pB∧i≠pC∧i < pS
 ne:pE≠pA∧pE≠pB∧pE≠pC∧pA≠pB∧pA≠pC∧pB≠pC
 lt:pE < pS∧pA < pS∧pB < pS∧pC < pS
variable {w:World} {B o:Nat} {e:TypeId} {m:Nat} {cs:Array Value} {tb:TypeId} {n:Nat} {xs x:List Value} {ks:List Nat} {kn:Nat→Value} {pE pA pB pC pS:Nat} {l l':Nat→Bool} {v:Nat→Value} {w' w'':World}
theorem AX.ext (hp:Apart ks pE pA pB pC pS) (h:∀ i,i < pS+1→l i=l' i) (H:AX w B o e m cs tb n xs x ks kn pE pA pB pC pS l v w'):AX w B o e m cs tb n xs x ks kn pE pA pB pC pS l' v w' where
 ord g i hi:=by rw[←h i (by omega)];exact H.ord (by rw[h pS (by omega)];exact g) i hi
 low g:=H.low (by rw[h pS (by omega)];exact g)
 kn i hi g:=H.kn i hi (by have:=hp.kE i hi;rw[h i (by omega)];exact g)
 e1 g g':=H.e1 (by have:=hp.lt;rw[h pE (by omega)];exact g) (by have:=hp.lt;rw[h pA (by omega)];exact g')
 e5 g g':=H.e5 (by have:=hp.lt;rw[h pA (by omega)];exact g) (by have:=hp.lt;rw[h pC (by omega)];exact g')
 e8 g g':=H.e8 (by have:=hp.lt;rw[h pB (by omega)];exact g) (by have:=hp.lt;rw[h pC (by omega)];exact g')
 e9 g g':=H.e9 (by have:=hp.lt;rw[h pC (by omega)];exact g) (by rw[h pS (by omega)];exact g')
 fin g:=H.fin (by rw[h pS (by omega)];exact g)
theorem AX.start (w:World) (B o:Nat) (e:TypeId) (m:Nat) (cs:Array Value) (tb:TypeId) (n:Nat) (xs x:List Value) (ks:List Nat) (kn:Nat→Value) (pE pA pB pC pS:Nat):AX w B o e m cs tb n xs x ks kn pE pA pB pC pS (fun _=>false) (fun _=>undef) w.drew:=
 ⟨fun h=>by(cases h),fun _=>aj (af _),fun _ _ h=>by(cases h),fun h=>by(cases h),fun h=>by(cases h),fun h=>by(cases h),fun h=>by(cases h),fun h=>by(cases h)⟩
theorem AX.not (H:AX w B o e m cs tb n xs x ks kn pE pA pB pC pS l v w') {i:Nat} (hi:i < pS) (hl:l i=false):l pS=false:=by
 cases h:l pS with
 | false=>rfl
 | true=>rw[H.ord h i hi]at hl;cases hl
theorem AX.put {y:Value} (hp:Apart ks pE pA pB pC pS) (i:Nat) (hi:i < pS∧i≠pC) (hl:l i=false) (H:AX w B o e m cs tb n xs x ks kn pE pA pB pC pS l v w') (hb:Below w'.heap.size w' w'')
  (h0:i∈ks→y=kn i) (h1:i=pE→∃ g,y=.slice (some ⟨g,0,none⟩) 0 0∧w''.ownsRow w.heap.size e m y 0 [])
  (h5:i=pA→w''.ownsRow w.heap.size e m y n xs) (h8:i=pB→∃ g,y=.slice (some ⟨g,0,none⟩) 1 1∧∀ (j:Nat) (u:Value),x[j]? =some u→w''.cell? ⟨g,j,none⟩=some u):AX w B o e m cs tb n xs x ks kn pE pA pB pC pS (aJ l i) (bQ v i y) w'':=by
 have h11:l pS=false:=H.not (by omega) hl
 have n11:aJ l i pS=false:=by unfold aJ;rw[if_neg (by omega)];exact h11
 have eL:∀ j,j≠i→aJ l i j=l j:=fun j h=>by unfold aJ;rw[if_neg h]
 have eV:∀ j,j≠i→bQ v i y j=v j:=fun j h=>by unfold bQ;rw[if_neg h]
 have iV:bQ v i y i=y:=by unfold bQ;rw[if_pos rfl]
 have tL:∀ {j},aJ l i j=false→l j=false:=by intro j h;unfold aJ at h;split at h;cases h;exact h
 refine⟨fun g=>by(rw[n11]at g;cases g),fun _=>ag (H.low h11) hb,fun j hj g=>?_,fun g g'=>?_,fun g g'=>?_,fun g g'=>?_,fun g g'=>?_,fun g=>by(rw[n11]at g;cases g)⟩
 ·by_cases hh:j=i
  ·subst hh;rw[iV];exact h0 hj
  ·rw[eL j hh]at g;rw[eV j hh];exact H.kn j hj g
 ·by_cases hh:pE=i
  ·subst hh;rw[iV];exact h1 rfl
  ·rw[eL pE hh]at g;rw[eV pE hh]
   obtain⟨a,a1,a2⟩:=H.e1 g (tL g')
   exact⟨a,a1,fC a2 hb⟩
 ·by_cases hh:pA=i
  ·subst hh;rw[iV];exact h5 rfl
  ·rw[eL pA hh]at g;rw[eV pA hh];exact fC (H.e5 g (tL g')) hb
 ·by_cases hh:pB=i
  ·subst hh;rw[iV];exact h8 rfl
  ·rw[eL pB hh]at g;rw[eV pB hh]
   obtain⟨a,a1,a2⟩:=H.e8 g (tL g')
   exact⟨a,a1,fun j u hu=>later hb (a2 j u hu)⟩
 ·rw[eL pC (by omega)]at g;rw[eV pC (by omega)];exact fC (H.e9 g h11) hb
theorem AX.DU {y:Value} (hp:Apart ks pE pA pB pC pS) (hl:l pC=false) (h5:l pA=true) (H:AX w B o e m cs tb n xs x ks kn pE pA pB pC pS l v w') (hg:w'.grownBy w'' (v pA).ownBlock) (hy:w''.ownsRow w.heap.size e m y (n+1) (xs++x)):AX w B o e m cs tb n xs x ks kn pE pA pB pC pS (aJ l pC) (bQ v pC y) w'':=by
 have hlt:=hp.lt
 have hne:=hp.ne
 have h11:l pS=false:=H.not (by omega) hl
 have n11:aJ l pC pS=false:=by unfold aJ;rw[if_neg (by omega)];exact h11
 have eL:∀ j,j≠pC→aJ l pC j=l j:=fun j h=>by unfold aJ;rw[if_neg h]
 have eV:∀ j,j≠pC→bQ v pC y j=v j:=fun j h=>by unfold bQ;rw[if_neg h]
 have i9:aJ l pC pC=true:=by unfold aJ;rw[if_pos rfl]
 have iV:bQ v pC y pC=y:=by unfold bQ;rw[if_pos rfl]
 have own:=H.e5 h5 hl
 have hlow:=H.low h11
 refine⟨fun g=>by(rw[n11]at g;cases g),fun _=>hlow.grown hg hlow.size (fun k hk=>(own.lt k hk).1),fun j hj g=>?_,fun g g'=>?_,fun g g'=>by(rw[i9]at g';cases g'),fun g g'=>by(rw[i9]at g';cases g'),fun g g'=>by(rw[iV];exact hy),fun g=>by(rw[n11]at g;cases g)⟩
 ·have:=hp.kE j hj
  rw[eL j (by omega)]at g;rw[eV j (by omega)];exact H.kn j hj g
 ·rw[eL pA (by omega),h5]at g';cases g'
theorem AX.DN (hp:Apart ks pE pA pB pC pS) (hB:aA w B cs tb) (hl:l pS=false) (hall:∀ i,i < pS→l i=true) (H:AX w B o e m cs tb n xs x ks kn pE pA pB pC pS l v w'):AX w B o e m cs tb n xs x ks kn pE pA pB pC pS (aJ l pS) (bQ v pS undef) (w'.setCell ⟨B,o,none⟩ (v pC)):=by
 have hlt:=hp.lt
 have hne:=hp.ne
 have eL:∀ j,j≠pS→aJ l pS j=l j:=fun j h=>by unfold aJ;rw[if_neg h]
 have eV:∀ j,j≠pS→bQ v pS undef j=v j:=fun j h=>by unfold bQ;rw[if_neg h]
 have i11:aJ l pS pS=true:=by unfold aJ;rw[if_pos rfl]
 have hlow:=H.low hl
 have own:=H.e9 (hall pC (by omega)) hl
 refine⟨fun _ i hi=>by(rw[eL i (by omega)];exact hall i hi),fun g=>by(rw[i11]at g;cases g),fun j hj g=>?_,fun g g'=>?_,fun g g'=>?_,fun g g'=>?_,fun g g'=>by(rw[i11]at g';cases g'),fun _=>⟨v pC,?_,?_,?_,fun h=>by omega⟩⟩
 ·have:=hp.kE j hj
  rw[eL j (by omega)]at g;rw[eV j (by omega)];exact H.kn j hj g
 ·rw[eL pA (by omega),hall pA (by omega)]at g';cases g'
 ·rw[eL pC (by omega),hall pC (by omega)]at g';cases g'
 ·rw[eL pC (by omega),hall pC (by omega)]at g';cases g'
 ·exact(Turn.of_below hlow).setCell (Or.inl (by simp)) _
 ·exact(hB.below hlow).set o (v pC)
 ·refine own.kept (row:=some B) ⟨rfl,rfl,rfl,by simp[World.setCell],fun k hk hne=>Below.heap_setCell _ _ _ _ (fun hh=>hne (by rw[hh]))⟩ (Or.inr fun hh=>?_)
  have:=(own.lt B hh).1
  have:=hB.lt
  omega
end
section
variable {P:Program} {ops:Array Oper} {Q:Exit→Act→World→Prop}
theorem eX {id:Nat} {a:Act} {aF:(Nat→Value)→Act} {w:World} (B o:Nat) (e:TypeId) (m:Nat) (cs:Array Value) (tb:TypeId) (n:Nat) (xs x:List Value) (ks:List Nat) (kn:Nat→Value) (pE pA pB pC pS:Nat)
  (hp:Apart ks pE pA pB pC pS)
  (hF:∀ vals,ay ops vals (fun _=>true) a ops.size=aF vals) (hm:P.follows .mixedOrders=true) (hd:bM ops=true) (hb:bI ops=true) (iR:fU ops=true)
  (hsz:(List.range ops.size).all (fun i=>match aB ops i with | some d=>decide (d < a.tmps.size) | none=>true)=true)
  (h12:ops.size=pS+1)
  (hstep:bZ (fun i o'=>Bj P ops (AX w B o e m cs tb n xs x ks kn pE pA pB pC pS) a i o') 0 ops.toList)
  (hdone:∀ (vals:Nat→Value) w',(∃ v9,Turn [B] w w'∧aA w' B (cs.setIfInBounds o v9) tb∧bU w' w.heap.size e m v9 (n+1) (xs++x))→Q .normal (aF vals) w'):
  (Code.region id ops true).wp P Q a w:=
 ni (AX w B o e m cs tb n xs x ks kn pE pA pB pC pS) hF hm hd hb iR hsz (fun l l' v w' h H=>H.ext hp (fun i hi=>h i (by omega))) (AX.start w B o e m cs tb n xs x ks kn pE pA pB pC pS) hstep (fun vals w' H=>hdone vals w' (H.fin rfl))
end
theorem pG {l:List Ev} {k:Nat} (h:k < l.length):(l.take (k+1)).reverse=l[k] :: (l.take k).reverse:=by
 rw[List.take_succ_eq_append_getElem h,List.reverse_append];rfl
theorem jv (l:List Ev):(l.take l.length).reverse=l.reverse:=by rw[List.take_length]
theorem cO.take {w:World} {a:Option Addr} {l:List Ev} (h:cO w a l) (k:Nat):cO w a (l.take k):=
 ⟨fun e he=>h.1 e (List.mem_of_mem_take he),fun hn=>by
  obtain⟨b,o,h1,h2⟩:=h.2 (by intro h0;rw[h0]at hn;simp at hn)
  exact⟨b,o,h1,fun j hj i v hv=>h2 j (by rw[List.length_take]at hj;omega) i v (by rw[List.getElem_take]at hv;exact hv)⟩⟩
theorem cO.seven {w:World} {b o:Nat} {l:List Ev} (h:∀ k (h:k < l.length) j v,(qM l[k])[j]? =some v→w.cell? ⟨b,o+k*7+j,none⟩=some v) {w':World} (hb:Below w.heap.size w w') {k:Nat} (hk:k < l.length) {kind th tx at_ v x why:Int} (iG:l[k]=⟨kind,th,tx,at_,v,x,why⟩):
  w'.cell? ⟨b,o+k*7,none⟩=some (.int .u8 kind)∧w'.cell? ⟨b,o+k*7+1,none⟩=some (.int .i64 th)∧w'.cell? ⟨b,o+k*7+2,none⟩=some (.int .i64 tx)∧w'.cell? ⟨b,o+k*7+3,none⟩=some (.int .i64 at_)∧w'.cell? ⟨b,o+k*7+4,none⟩=some (.int .i64 v)∧w'.cell? ⟨b,o+k*7+5,none⟩=some (.int .i64 x)∧w'.cell? ⟨b,o+k*7+6,none⟩=some (.int .u8 why):=
 ⟨later hb (h k hk 0 _ (by rw[iG];rfl)),later hb (h k hk 1 _ (by rw[iG];rfl)),later hb (h k hk 2 _ (by rw[iG];rfl)),later hb (h k hk 3 _ (by rw[iG];rfl)),later hb (h k hk 4 _ (by rw[iG];rfl)),later hb (h k hk 5 _ (by rw[iG];rfl)),later hb (h k hk 6 _ (by rw[iG];rfl))⟩
set_option maxRecDepth 100000 in
set_option maxHeartbeats 4000000 in
theorem KE (a:Option Addr) (l:List Ev) (n cap:Nat) (w:World) (hE:cO w a l) (hn:l.length=n) (hl:n≤1048576):Calls Tryd.prog 58 #[.slice a n cap] w fun e w'=>e=.returned (.int .i64 (lZ l.reverse))∧w=w':=by
 subst hn
 have HE:=hid hE
 have HL:=hid hl
 have j0:IntKind.i64.wrap ((l.length:Int)-1)=(l.length:Int)-1:=IntWalk.i64_in _ (by omega)
 clear hE hl
 go_enter Tryd.func58,Tryd.ntmps58
 go_wp2_with fail
 go_loopw [3] (fun i wr=>∃ k:Nat,k≤l.length∧i=.int .i64 ((k:Int)-1)∧Hid (lZ l.reverse=lZ (l.take k).reverse)∧w=wr) (fun i _=>(intOf i+1).toNat)
 case atStart=>exact⟨l.length,Nat.le_refl _,rfl,hid (by rw[jv]),rfl⟩
 case round=>
  obtain⟨k,hk,rfl,HF,rfl⟩:=hrel
  rcases k with _ | k
  ·have j1:decide ((0:Int)≤((0:Nat):Int)-1)=false:=by decide
   go_wp2_with fail
   go_ret
   exact⟨gy (by rw[HF.out];rfl),rfl⟩
  ·have hlt:k < l.length:=hk
   rw[show((k+1:Nat):Int)-1=(k:Int) by omega]
   have HT:=hid (pG hlt)
   obtain⟨b,o,rfl,hcell⟩:=HE.out.2 (by intro h;rw[h]at hlt;simp at hlt)
   rcases iG:l[k]with⟨kind,th,tx,at_,v,x,why⟩
   obtain⟨e0,-,-,-,e4,-,-⟩:=cO.seven hcell (af _) hlt iG
   have QW:=hid iG
   have j1:decide ((0:Int)≤(k:Int))=true:=by rw[decide_eq_true_iff];omega
   have j2:(0:Int)≤(k:Int):=by omega
   have j3:IntKind.i64.wrap ((k:Int)-1)=(k:Int)-1:=IntWalk.i64_in _ (by have:=HL.out;omega)
   have j4:decide (k < l.length)=true:=by rw[decide_eq_true_iff];omega
   clear hcell iG
   have HC:Hid (lZ (l.take (k+1)).reverse=if kind=1∨kind=5 then v else lZ (l.take k).reverse):=hid (by rw[HT.out,QW.out];rfl)
   by_cases k1:kind=1
   ·subst k1
    go_wp2_with fail
    go_ret
    exact⟨gy (by rw[HF.out,HC.out];first | (simp;done) | (simp[k1];done) | (simp[k1,k5];done) | (simp[hs];done) | (simp[h5];done) | (simp[k1,ht];done)),rfl⟩
   have n1:(kind==1)=false:=by simpa using k1
   have n1':decide (kind=1)=false:=decide_eq_false k1
   by_cases k5:kind=5
   ·subst k5
    go_wp2_with fail
    go_ret
    exact⟨gy (by rw[HF.out,HC.out];first | (simp;done) | (simp[k1];done) | (simp[k1,k5];done) | (simp[hs];done) | (simp[h5];done) | (simp[k1,ht];done)),rfl⟩
   have n5:(kind==5)=false:=by simpa using k5
   have n5':decide (kind=5)=false:=decide_eq_false k5
   go_wp2_with fail
   go_roundw
   case rel=>exact⟨k,by omega,rfl,hid (by rw[HF.out,HC.out];first | (simp;done) | (simp[k1];done) | (simp[k1,k5];done) | (simp[hs];done) | (simp[h5];done) | (simp[k1,ht];done)),trivial⟩
   case measure=>simp[intOf]
set_option maxRecDepth 100000 in
set_option maxHeartbeats 4000000 in
theorem Hu (a:Option Addr) (l:List Ev) (n cap:Nat) (t:Int) (w:World) (hE:cO w a l) (hn:l.length=n) (hl:n≤1048576):Calls Tryd.prog 88 #[.slice a n cap,.int .i64 t] w fun e w'=>e=.returned (.int .i64 (jZ l.reverse t))∧w=w':=by
 subst hn
 have HE:=hid hE
 have HL:=hid hl
 have j0:IntKind.i64.wrap ((l.length:Int)-1)=(l.length:Int)-1:=IntWalk.i64_in _ (by omega)
 clear hE hl
 go_enter Tryd.func88,Tryd.ntmps88
 go_wp2_with fail
 go_loopw [5] (fun i wr=>∃ k:Nat,k≤l.length∧i=.int .i64 ((k:Int)-1)∧Hid (jZ l.reverse t=jZ (l.take k).reverse t)∧w=wr) (fun i _=>(intOf i+1).toNat)
 case atStart=>exact⟨l.length,Nat.le_refl _,rfl,hid (by rw[jv]),rfl⟩
 case round=>
  obtain⟨k,hk,rfl,HF,rfl⟩:=hrel
  rcases k with _ | k
  ·have j1:decide ((0:Int)≤((0:Nat):Int)-1)=false:=by decide
   go_wp2_with fail
   go_ret
   exact⟨gy (by rw[HF.out];rfl),rfl⟩
  ·have hlt:k < l.length:=hk
   rw[show((k+1:Nat):Int)-1=(k:Int) by omega]
   have HT:=hid (pG hlt)
   obtain⟨b,o,rfl,hcell⟩:=HE.out.2 (by intro h;rw[h]at hlt;simp at hlt)
   rcases iG:l[k]with⟨kind,th,tx,at_,v,x,why⟩
   obtain⟨e0,e1,e2,e3,e4,e5,e6⟩:=cO.seven hcell (af _) hlt iG
   have QW:=hid iG
   have j1:decide ((0:Int)≤(k:Int))=true:=by rw[decide_eq_true_iff];omega
   have j2:(0:Int)≤(k:Int):=by omega
   have j3:IntKind.i64.wrap ((k:Int)-1)=(k:Int)-1:=IntWalk.i64_in _ (by have:=HL.out;omega)
   have j4:decide (k < l.length)=true:=by rw[decide_eq_true_iff];omega
   clear hcell iG
   have HC:Hid (jZ (l.take (k+1)).reverse t=if kind=5∧th=t then v else jZ (l.take k).reverse t):=hid (by rw[HT.out,QW.out];rfl)
   by_cases h5:kind=5
   ·subst h5
    by_cases ht:th=t
    ·subst ht
     go_wp2_with fail
     go_ret
     exact⟨gy (by rw[HF.out,HC.out];first | (simp;done) | (simp[h5];done) | (simp[ht];done) | (simp[h5];done)),rfl⟩
    have n1:(th==t)=false:=by simpa using ht
    have n1':decide (th=t)=false:=decide_eq_false ht
    go_wp2_with fail
    go_roundw
    case rel=>exact⟨k,by omega,rfl,hid (by rw[HF.out,HC.out];first | (simp;done) | (simp[h5];done) | (simp[ht];done) | (simp[h5];done)),trivial⟩
    case measure=>simp[intOf]
   have n5:(kind==5)=false:=by simpa using h5
   have n5':decide (kind=5)=false:=decide_eq_false h5
   go_wp2_with fail
   go_roundw
   case rel=>exact⟨k,by omega,rfl,hid (by rw[HF.out,HC.out];first | (simp;done) | (simp[h5];done) | (simp[ht];done) | (simp[h5];done)),trivial⟩
   case measure=>simp[intOf]
set_option maxRecDepth 100000 in
set_option maxHeartbeats 4000000 in
theorem JD (a:Option Addr) (l:List Ev) (n cap:Nat) (s:Int) (w:World) (hE:cO w a l) (hn:l.length=n) (hl:n≤1048576):Calls Tryd.prog 59 #[.slice a n cap,.int .i64 s] w fun e w'=>e=.returned (.int .i64 (dR l.reverse s))∧Below w.heap.size w w':=by
 subst hn
 have HE:=hid hE
 have HL:=hid hl
 have j0:IntKind.i64.wrap ((l.length:Int)-1)=(l.length:Int)-1:=IntWalk.i64_in _ (by omega)
 clear hE hl
 go_enter Tryd.func59,Tryd.ntmps59
 go_wp2_with fail
 go_loopw [5] (fun i wr=>∃ k:Nat,k≤l.length∧i=.int .i64 ((k:Int)-1)∧Hid (dR l.reverse s=dR (l.take k).reverse s)∧Below w.heap.size w wr) (fun i _=>(intOf i+1).toNat)
 case atStart=>exact⟨l.length,Nat.le_refl _,rfl,hid (by rw[jv]),af _⟩
 case round=>
  obtain⟨k,hk,rfl,HF,hb⟩:=hrel
  rcases k with _ | k
  ·have j1:decide ((0:Int)≤((0:Nat):Int)-1)=false:=by decide
   go_wp2_with fail
   go_ret
   exact⟨gy (by rw[HF.out];rfl),hb⟩
  ·have hlt:k < l.length:=hk
   rw[show((k+1:Nat):Int)-1=(k:Int) by omega]
   have HT:=hid (pG hlt)
   obtain⟨b,o,rfl,hcell⟩:=HE.out.2 (by intro h;rw[h]at hlt;simp at hlt)
   rcases iG:l[k]with⟨kind,th,tx,at_,v,x,why⟩
   obtain⟨e0,e1,e2,e3,e4,e5,e6⟩:=cO.seven hcell hb hlt iG
   have QW:=hid iG
   have j1:decide ((0:Int)≤(k:Int))=true:=by rw[decide_eq_true_iff];omega
   have j2:(0:Int)≤(k:Int):=by omega
   have j3:IntKind.i64.wrap ((k:Int)-1)=(k:Int)-1:=IntWalk.i64_in _ (by have:=HL.out;omega)
   have j4:decide (k < l.length)=true:=by rw[decide_eq_true_iff];omega
   clear hcell iG
   have HB:Below w.heap.size w (wr.alloc (.cells #[.int .u8 kind,.int .i64 th,.int .i64 tx,.int .i64 at_,.int .i64 v,.int .i64 x,.int .u8 why] 49)):=ah hb _
   have hq:=aA.new wr #[.int .u8 kind,.int .i64 th,.int .i64 tx,.int .i64 at_,.int .i64 v,.int .i64 x,.int .u8 why] 49
   have q0:=hq.cell 0 (v:=.int .u8 kind) rfl
   have q1:=hq.cell 1 (v:=.int .i64 th) rfl
   have q3:=hq.cell 3 (v:=.int .i64 at_) rfl
   clear hq
   have HC:Hid (dR (l.take (k+1)).reverse s=if at_=s then(if kind=4 then th else if kind=9∨kind=11 then -1 else dR (l.take k).reverse s)else dR (l.take k).reverse s):=hid (by rw[HT.out,QW.out];rfl)
   by_cases hs:at_=s
   ·subst hs
    by_cases h4:kind=4
    ·subst h4
     go_wp2_with fail
     go_ret
     exact⟨gy (by rw[HF.out,HC.out];first | (simp;done) | (simp[h4];done) | (simp[h4,h9,h11];done) | (simp[hs];done) | (simp[h5];done) | (simp[h4,ht];done)),HB⟩
    have n4:(kind==4)=false:=by simpa using h4
    have n4':decide (kind=4)=false:=decide_eq_false h4
    by_cases h9:kind=9
    ·subst h9
     go_wp2_with fail
     go_ret
     exact⟨gy (by rw[HF.out,HC.out];first | (simp;done) | (simp[h4];done) | (simp[h4,h9,h11];done) | (simp[hs];done) | (simp[h5];done) | (simp[h4,ht];done)),HB⟩
    have n9:(kind==9)=false:=by simpa using h9
    have n9':decide (kind=9)=false:=decide_eq_false h9
    by_cases h11:kind=11
    ·subst h11
     go_wp2_with fail
     go_ret
     exact⟨gy (by rw[HF.out,HC.out];first | (simp;done) | (simp[h4];done) | (simp[h4,h9,h11];done) | (simp[hs];done) | (simp[h5];done) | (simp[h4,ht];done)),HB⟩
    have n11:(kind==11)=false:=by simpa using h11
    have aag:decide (kind=11)=false:=decide_eq_false h11
    go_wp2_with fail
    go_roundw
    case rel=>exact⟨k,by omega,rfl,hid (by rw[HF.out,HC.out];first | (simp;done) | (simp[h4];done) | (simp[h4,h9,h11];done) | (simp[hs];done) | (simp[h5];done) | (simp[h4,ht];done)),HB⟩
    case measure=>simp[intOf]
   have n1:(at_==s)=false:=by simpa using hs
   have n1':decide (at_=s)=false:=decide_eq_false hs
   go_wp2_with fail
   go_roundw
   case rel=>exact⟨k,by omega,rfl,hid (by rw[HF.out,HC.out];first | (simp;done) | (simp[h4];done) | (simp[h4,h9,h11];done) | (simp[hs];done) | (simp[h5];done) | (simp[h4,ht];done)),HB⟩
   case measure=>simp[intOf]
set_option maxRecDepth 100000 in
set_option maxHeartbeats 4000000 in
theorem Dy (a:Option Addr) (l:List Ev) (n cap:Nat) (s:Int) (w:World) (hE:cO w a l) (hn:l.length=n) (hl:n≤1048576) (hcap:n≤cap):Calls Tryd.prog 60 #[.slice a n cap,.int .i64 s] w fun e w'=>e=.returned (.int .i64 (fM l.reverse s))∧Below w.heap.size w w':=by
 subst hn
 have HE:=hid hE
 have HL:=hid hl
 have j0:IntKind.i64.wrap ((l.length:Int)-1)=(l.length:Int)-1:=IntWalk.i64_in _ (by omega)
 have UJ:=hid hcap
 clear hE hl hcap
 go_enter Tryd.func60,Tryd.ntmps60
 go_wp2_with fail
 go_loopw [5] (fun i wr=>∃ k:Nat,k≤l.length∧i=.int .i64 ((k:Int)-1)∧Hid (fM l.reverse s=fM (l.take k).reverse s)∧Below w.heap.size w wr) (fun i _=>(intOf i+1).toNat)
 case atStart=>exact⟨l.length,Nat.le_refl _,rfl,hid (by rw[jv]),af _⟩
 case round=>
  obtain⟨k,hk,rfl,HF,hb⟩:=hrel
  rcases k with _ | k
  ·have j1:decide ((0:Int)≤((0:Nat):Int)-1)=false:=by decide
   go_wp2_with fail
   go_ret
   exact⟨gy (by rw[HF.out];rfl),hb⟩
  ·have hlt:k < l.length:=hk
   rw[show((k+1:Nat):Int)-1=(k:Int) by omega]
   have HT:=hid (pG hlt)
   obtain⟨b,o,ha,hcell⟩:=HE.out.2 (by intro h;rw[h]at hlt;simp at hlt)
   rcases iG:l[k]with⟨kind,th,tx,at_,v,x,why⟩
   obtain⟨e0,e1,e2,e3,e4,e5,e6⟩:=cO.seven hcell hb hlt iG
   have QW:=hid iG
   have j1:decide ((0:Int)≤(k:Int))=true:=by rw[decide_eq_true_iff];omega
   have j2:(0:Int)≤(k:Int):=by omega
   have j3:IntKind.i64.wrap ((k:Int)-1)=(k:Int)-1:=IntWalk.i64_in _ (by have:=HL.out;omega)
   have j4:decide (k < l.length)=true:=by rw[decide_eq_true_iff];omega
   subst ha
   clear hcell iG
   have HB:=hb
   have HC:Hid (fM (l.take (k+1)).reverse s=if at_=s∧kind=2 then v else if at_=s∧kind=9 then jZ (l.take k).reverse th else fM (l.take k).reverse s):=hid (by rw[HT.out,QW.out];rfl)
   by_cases hs:at_=s
   ·subst hs
    by_cases h2:kind=2
    ·subst h2
     go_wp2_with fail
     go_ret
     exact⟨gy (by rw[HF.out,HC.out];first | (simp;done) | (simp[h2];done) | (simp[h2,h9];done) | (simp[hs];done) | (simp[h5];done) | (simp[h2,ht];done)),HB⟩
    have n2:(kind==2)=false:=by simpa using h2
    have n2':decide (kind=2)=false:=decide_eq_false h2
    by_cases h9:kind=9
    ·subst h9
     have j5:decide (k≤cap)=true:=by rw[decide_eq_true_iff];have:=UJ.out;omega
     have j6:(k:Int)≤(cap:Int):=by have:=UJ.out;omega
     have HBU:=hid (fun W (hW:Below wr.heap.size wr W)=>Hu (some ⟨b,o,none⟩) (l.take k) k cap th W (((HE.out.below hb).below hW).take k) (by simp;omega) (by have:=HL.out;omega))
     go_wp2_with fail
     apply aZ (fun qq=>([(.slice (some ⟨b,o,none⟩) l.length cap),(.int .i64 (k:Int)),(.slice (some ⟨b,o,none⟩) k cap),(.slice (some ⟨b,o,none⟩) l.length cap),(.int .i64 (k:Int)),(.pointer (some ⟨b,o+k*7,none⟩)),(.pointer (some ⟨b,o+k*7+1,none⟩)),(.int .i64 th),(.int .i64 (jZ (l.take k).reverse th)),(.int .i64 (jZ (l.take k).reverse th))]:List Value).getD qq undef) (fun w'=>Below wr.heap.size wr w')
     focus (simp[ay,aB,Act.put,List.getD];rfl)
     case hm=>kernel_rfl
     case hd=>kernel_rfl
     case hb=>kernel_rfl
     case iR=>kernel_rfl
     case hsz=>kernel_rfl
     case h0=>exact aj (af _)
     case hstep=>
      refine⟨?_,?_,?_,?_,?_,?_,?_,?_,?_,?_,trivial⟩
      ·refine⟨(fun g b h=>by cases h),fun w' hG hg ρ h1 h2 h3 h4 h5=>?_⟩
       have hG:=hid hG
       have f0:ρ (.tmp 0)=.slice (some ⟨b,o,none⟩) l.length cap:=h5 0 (by kernel_rfl)
       all_goals
        try dsimp only[WF,WT]at*
        clear h4 h5 hg
        unfold aO
        go_simp
        first | exact⟨rfl,hG.out⟩ | exact⟨Or.inr rfl,hG.out⟩ | exact⟨Or.inl rfl,hG.out⟩
      ·refine⟨(fun g b h=>by cases h),fun w' hG hg ρ h1 h2 h3 h4 h5=>?_⟩
       have hG:=hid hG
       have f5:ρ (.tmp 5)=.int .i64 (k:Int):=h5 5 (by kernel_rfl)
       all_goals
        try dsimp only[WF,WT]at*
        clear h4 h5 hg
        unfold aO
        go_simp
        first | exact⟨rfl,hG.out⟩ | exact⟨Or.inr rfl,hG.out⟩ | exact⟨Or.inl rfl,hG.out⟩
      ·refine⟨(fun g b h=>by cases h),fun w' hG hg ρ h1 h2 h3 h4 h5=>?_⟩
       have hG:=hid hG
       have f48:ρ (.tmp 48)=(.slice (some ⟨b,o,none⟩) l.length cap):=h4 0 48 (by kernel_rfl) (by kernel_rfl)
       have f49:ρ (.tmp 49)=(.int .i64 (k:Int)):=h4 1 49 (by kernel_rfl) (by kernel_rfl)
       all_goals
        try dsimp only[WF,WT]at*
        clear h4 h5 hg
        unfold aO
        go_simp
        first | exact⟨rfl,hG.out⟩ | exact⟨Or.inr rfl,hG.out⟩ | exact⟨Or.inl rfl,hG.out⟩
      ·refine⟨(fun g b h=>by cases h),fun w' hG hg ρ h1 h2 h3 h4 h5=>?_⟩
       have hG:=hid hG
       have f0:ρ (.tmp 0)=.slice (some ⟨b,o,none⟩) l.length cap:=h5 0 (by kernel_rfl)
       all_goals
        try dsimp only[WF,WT]at*
        clear h4 h5 hg
        unfold aO
        go_simp
        first | exact⟨rfl,hG.out⟩ | exact⟨Or.inr rfl,hG.out⟩ | exact⟨Or.inl rfl,hG.out⟩
      ·refine⟨(fun g b h=>by cases h),fun w' hG hg ρ h1 h2 h3 h4 h5=>?_⟩
       have hG:=hid hG
       have f5:ρ (.tmp 5)=.int .i64 (k:Int):=h5 5 (by kernel_rfl)
       all_goals
        try dsimp only[WF,WT]at*
        clear h4 h5 hg
        unfold aO
        go_simp
        first | exact⟨rfl,hG.out⟩ | exact⟨Or.inr rfl,hG.out⟩ | exact⟨Or.inl rfl,hG.out⟩
      ·refine⟨(fun g b h=>by cases h),fun w' hG hg ρ h1 h2 h3 h4 h5=>?_⟩
       have hG:=hid hG
       have f51:ρ (.tmp 51)=(.slice (some ⟨b,o,none⟩) l.length cap):=h4 3 51 (by kernel_rfl) (by kernel_rfl)
       have f52:ρ (.tmp 52)=(.int .i64 (k:Int)):=h4 4 52 (by kernel_rfl) (by kernel_rfl)
       all_goals
        try dsimp only[WF,WT]at*
        clear h4 h5 hg
        unfold aO
        go_simp
        first | exact⟨rfl,hG.out⟩ | exact⟨Or.inr rfl,hG.out⟩ | exact⟨Or.inl rfl,hG.out⟩
      ·refine⟨(fun g b h=>by cases h),fun w' hG hg ρ h1 h2 h3 h4 h5=>?_⟩
       have hG:=hid hG
       have f53:ρ (.tmp 53)=(.pointer (some ⟨b,o+k*7,none⟩)):=h4 5 53 (by kernel_rfl) (by kernel_rfl)
       all_goals
        try dsimp only[WF,WT]at*
        clear h4 h5 hg
        unfold aO
        go_simp
        first | exact⟨rfl,hG.out⟩ | exact⟨Or.inr rfl,hG.out⟩ | exact⟨Or.inl rfl,hG.out⟩
      ·refine⟨(fun g b h=>by cases h),fun w' hG hg ρ h1 h2 h3 h4 h5=>?_⟩
       have hG:=hid hG
       have f54:ρ (.tmp 54)=(.pointer (some ⟨b,o+k*7+1,none⟩)):=h4 6 54 (by kernel_rfl) (by kernel_rfl)
       have y:=later hG.out e1
       all_goals
        try dsimp only[WF,WT]at*
        clear h4 h5 hg
        unfold aO
        go_simp
        first | exact⟨rfl,hG.out⟩ | exact⟨Or.inr rfl,hG.out⟩ | exact⟨Or.inl rfl,hG.out⟩
      ·refine⟨(fun g b h=>by cases h),fun w' hG hg ρ h1 h2 h3 h4 h5=>?_⟩
       have hG:=hid hG
       have f50:ρ (.tmp 50)=(.slice (some ⟨b,o,none⟩) k cap):=h4 2 50 (by kernel_rfl) (by kernel_rfl)
       have f55:ρ (.tmp 55)=(.int .i64 th):=h4 7 55 (by kernel_rfl) (by kernel_rfl)
       all_goals
        try dsimp only[WF,WT]at*
        clear h4 h5 hg
        unfold aO
        go_simp
        unfold xE
        refine(HBU.out _ hG.out).mono ?_
        rintro e' w1 ⟨rfl,rfl⟩
        first | exact⟨_,rfl,rfl,hG.out⟩ | exact⟨_,rfl,Or.inr rfl,hG.out⟩
      ·refine⟨(fun g b h=>by cases h),fun w' hG hg ρ h1 h2 h3 h4 h5=>?_⟩
       have hG:=hid hG
       have f56:ρ (.tmp 56)=(.int .i64 (jZ (l.take k).reverse th)):=h4 8 56 (by kernel_rfl) (by kernel_rfl)
       all_goals
        try dsimp only[WF,WT]at*
        clear h4 h5 hg
        unfold aO
        go_simp
        first | exact⟨rfl,hG.out⟩ | exact⟨Or.inr rfl,hG.out⟩ | exact⟨Or.inl rfl,hG.out⟩
     case hdone=>
      intro w' hG
      have HB2:Below w.heap.size w w':=ag hb hG
      clear hG
      go_wp2_with fail
      go_ret
      exact⟨gy (by rw[HF.out,HC.out];simp),HB2⟩
    have n9:(kind==9)=false:=by simpa using h9
    have n9':decide (kind=9)=false:=decide_eq_false h9
    go_wp2_with fail
    go_roundw
    case rel=>exact⟨k,by omega,rfl,hid (by rw[HF.out,HC.out];first | (simp;done) | (simp[h2];done) | (simp[h2,h9];done) | (simp[hs];done) | (simp[h5];done) | (simp[h2,ht];done)),HB⟩
    case measure=>simp[intOf]
   have n1:(at_==s)=false:=by simpa using hs
   have n1':decide (at_=s)=false:=decide_eq_false hs
   go_wp2_with fail
   go_roundw
   case rel=>exact⟨k,by omega,rfl,hid (by rw[HF.out,HC.out];first | (simp;done) | (simp[h2];done) | (simp[h2,h9];done) | (simp[hs];done) | (simp[h5];done) | (simp[h2,ht];done)),HB⟩
   case measure=>simp[intOf]
def fG (l:List Int):List Value:=l.map (Value.int .i64)
theorem nK (l:List Int):(fG l).length=l.length:=by simp[fG]
theorem kG (l:List Int):∀ u∈fG l,u.oneCell'=true:=by
 intro u hu
 obtain⟨x,-,rfl⟩:=List.mem_map.1 hu
 rfl
theorem uX (l:List Int) (j:Nat) (h:j < l.length):(fG l)[j]? =some (.int .i64 l[j]):=by simp[fG,h]
def U2 (w:World) (l:List Int) (v:Value):Prop:=
 ∃ a cap,v=.slice a l.length cap∧l.length≤cap∧(l=[]→v=.slice none 0 0)∧(l≠[]→∃ b o,a=some ⟨b,o,none⟩∧∀ k (h:k < l.length),w.cell? ⟨b,o+k,none⟩=some (.int .i64 l[k]))
theorem U2.below {w w':World} {l:List Int} {v:Value} (hb:Below w.heap.size w w') (h:U2 w l v):U2 w' l v:=by
 obtain⟨a,cap,rfl,hc,h0,h1⟩:=h
 exact⟨a,cap,rfl,hc,h0,fun hn=>by
  obtain⟨b,o,rfl,h2⟩:=h1 hn
  exact⟨b,o,rfl,fun k hk=>later hb (h2 k hk)⟩⟩
theorem bU.Sl {w:World} {base:Nat} {e:TypeId} {v:Value} {l:List Int} (h:bU w base e 1 v l.length (fG l)):U2 w l v:=by
 rcases h.cases with⟨h0,-,rfl⟩ | ⟨g,cap,rfl,hp,hc,-,-,hu⟩
 ·have:l=[]:=List.eq_nil_of_length_eq_zero h0
  subst this
  exact⟨none,0,rfl,Nat.le_refl _,fun _=>rfl,fun hn=>absurd rfl hn⟩
 ·exact⟨some ⟨g,0,none⟩,cap,rfl,hc,fun hn=>by rw[hn]at hp;simp at hp,fun _=>⟨g,0,rfl,fun k hk=>by rw[Nat.zero_add];exact hu k _ (uX l k hk)⟩⟩
theorem Wi (b o j:Nat):(⟨b,o,none⟩:Addr).add j=⟨b,o+j,none⟩:=by unfold Addr.add;split <;> simp_all
theorem yt:∀ (k:Nat) (l:List Int) (n:Int),k≤l.length→(∀ j (h:j < l.length),j < k→l[j] < n)→fP l n=l.take k++fP (l.drop k) n:=by
 intro k
 induction k with
 | zero=>intro l n _ _;rfl
 | succ k ih=>
  intro l n hk h
  cases l with
  | nil=>simp at hk
  | cons x l=>
   have hx:x < n:=h 0 (by simp) (by omega)
   rw[List.take_succ_cons,List.drop_succ_cons,List.cons_append,←ih l n (by simpa using hk) (fun j hj hjk=>by
    have:=h (j+1) (by simpa using hj) (by omega);simpa using this)]
   show(if x < n then x :: fP l n else _)=_
   rw[if_pos hx]
theorem Mc {l:List Int} {n:Int} (h:∀ j (h:j < l.length),l[j] < n):fP l n=l++[n]:=by
 have:=yt l.length l n (Nat.le_refl _) (fun j hj _=>h j hj)
 rw[this,List.take_length,List.drop_length];rfl
theorem DR {l:List Int} {n:Int} {k:Nat} (hk:k < l.length) (h:∀ j (h:j < l.length),j < k→l[j] < n) (hx:¬ l[k] < n):fP l n=if l[k]=n then l else l.take k++n :: l.drop k:=by
 rw[yt k l n (by omega) h,List.drop_eq_getElem_cons hk]
 show _++(if l[k] < n then _ else if l[k]=n then _ else _)=_
 rw[if_neg hx]
 split
 ·rw[←List.drop_eq_getElem_cons hk,List.take_append_drop]
 ·rfl
set_option maxRecDepth 100000 in
set_option maxHeartbeats 4000000 in
theorem last_any (l:List Int) (w:World) (v:Value) (h:U2 w l v) (hl:l.length≤1048576):Calls Tryd.prog 61 #[v] w fun e w'=>e=.returned (.int .i64 (iy l))∧w=w':=by
 obtain⟨a,cap,rfl,hc,-,h1⟩:=h
 rcases List.eq_nil_or_concat l with rfl | ⟨m,x,rfl⟩
 ·clear h1 hl
  go_enter Tryd.func61,Tryd.ntmps61
  go_wp2_with fail
  go_ret
  exact⟨rfl,rfl⟩
 ·rw[List.concat_eq_append]at*
  obtain⟨b,o,rfl,h2⟩:=h1 (by simp)
  have hc2:w.cell? ⟨b,o+m.length,none⟩=some (.int .i64 x):=by have c:=h2 m.length (by simp);simpa using c
  have HX:Hid (iy (m++[x])=x):=hid (yM m x)
  have hl':m.length+1≤1048576:=by simpa using hl
  clear h1 h2 hl
  rw[show(m++[x]).length=m.length+1 by simp]at hc⊢
  have j0':((m.length:Int)+1==0)=false:=by rw[beq_eq_false_iff_ne];omega
  have j1:IntKind.i64.wrap ((m.length:Int)+1-1)=(m.length:Int):=by rw[IntWalk.i64_in _ (by omega)];omega
  have j2:(0:Int)≤(m.length:Int):=by omega
  have j3:decide ((m.length:Int) < (m.length:Int)+1)=true:=by rw[decide_eq_true_iff];omega
  have j4:decide (m.length < m.length+1)=true:=by rw[decide_eq_true_iff];omega
  have j5:(m.length:Int) < (m.length:Int)+1:=by omega
  have j6:(m.length:Int).toNat=m.length:=by omega
  have j7:wrap64 (m.length:Int)=(m.length:Int):=by unfold wrap64;omega
  clear hl' hc
  go_enter Tryd.func61,Tryd.ntmps61
  go_wp2_with fail
  go_ret
  exact⟨gy HX.out.symm,rfl⟩
theorem pR:(Tryd.prog.info? 3).map (fun i=>(i.zero,i.size,i.bytes))=some (some (.int .i64 0),1,8):=by kernel_rfl
def Ug (w:World) (l:List Int) (n:Int) (v:Value) (e:Ending) (w':World):Prop:=
 ∃ v',e=.returned v'∧Below w.heap.size w w'∧((v'=v∧fP l n=l)∨bU w' w.heap.size 3 1 v' (fP l n).length (fG (fP l n)))
set_option maxRecDepth 100000 in
set_option maxHeartbeats 4000000 in
theorem PM (n:Int) (w:World):Calls Tryd.prog 63 #[.slice none 0 0,.int .i64 n] w (Ug w [] n (.slice none 0 0)):=by
 obtain⟨i0,hi0,hz0,hz1,hz2⟩:=info_parts pR
 go_enter Tryd.func63,Tryd.ntmps63
 go_wp2_with fail
 go_loopw [5] (fun i wr=>i=.int .i64 0∧w=wr) (fun _ _=>0)
 case atStart=>exact⟨rfl,rfl⟩
 case round=>
  obtain⟨rfl,rfl⟩:=hrel
  have yA:=World.ownsRow_made (base:=w.heap.size) (size:=1) (e:=3) w #[] 0 (Nat.le_refl _) (by decide) rfl
  have Vq:=fC yA (ah (af _) (.cells #[.int .i64 n] 3))
  have cn:((w.alloc (.cells #[] 3)).alloc (.cells #[.int .i64 n] 3)).cell? ⟨w.heap.size+1,0,none⟩=some (.int .i64 n):=(aA.new' (w.alloc (.cells #[] 3)) #[.int .i64 n] 3 (by simp)).cell 0 rfl
  go_wp2_with (first
   | (at_builtin;refine wpList_append_own_none rfl (.tmp 34) (.tmp 37) 32 rfl w.heap.size 3 i0 1 Tryd.underlying32 hi0 _ 0 [] rfl yA rfl ?_)
   | (at_builtin;refine wpList_append_own_at _ rfl (.tmp 38) (.tmp 40) 32 rfl w.heap.size 3 i0 _ 1 8 Tryd.underlying32 hi0 hz0 hz1 hz2 rfl (by decide) (.slice (some ⟨w.heap.size,0,none⟩) 0 0) 0 [] rfl Vq ⟨w.heap.size+1,0,none⟩ 1 1 [.int .i64 n] rfl rfl (by intro j u hu;cases j with | zero=>(simp at hu;subst hu;exact cn) | succ j=>(simp at hu)) (by intro u hu;simp at hu;subst hu;rfl) (by decide) (by decide) (by simp;omega) ?_;intro v' w3 hown hg hn hd;obtain⟨g,cp,rfl⟩:=fA hown)
   | (at_builtin;refine wpList_append_own_none rfl (.tmp 42) (.tmp 45) 32 rfl w.heap.size 3 i0 1 Tryd.underlying32 hi0 _ 1 [.int .i64 n] rfl hown rfl ?_)
   | fail)
  have hb2:Below w.heap.size w ((w.alloc (.cells #[] 3)).alloc (.cells #[.int .i64 n] 3)):=ah (ah (af _) _) _
  have hb3:Below w.heap.size w w3:=hb2.grown hg hb2.size (fun k hk=>(Vq.lt k hk).1)
  exact bodyPost_ret (v:=.slice (some ⟨g,0,none⟩) 1 cp) (by simp[results,Tryd.results63,go_sem]) rfl ⟨_,rfl,hb3,Or.inr ⟨hown,fun h=>by cases h⟩⟩
set_option maxRecDepth 100000 in
set_option maxHeartbeats 4000000 in
theorem L9 (l:List Int) (n:Int) (b o cap:Nat) (w:World) (hne:l≠[]) (hl:l.length≤1048576) (hc:l.length≤cap) (hx:∀ k (h:k < l.length),w.cell? ⟨b,o+k,none⟩=some (.int .i64 l[k])):Calls Tryd.prog 63 #[.slice (some ⟨b,o,none⟩) l.length cap,.int .i64 n] w (Ug w l n (.slice (some ⟨b,o,none⟩) l.length cap)):=by
 obtain⟨i0,hi0,hz0,hz1,hz2⟩:=info_parts pR
 have HX:=hid hx
 have HL:=hid hl
 have HC:=hid hc
 clear hx hl hc hne
 go_enter Tryd.func63,Tryd.ntmps63
 go_wp2_with fail
 go_loopw [5] (fun i wr=>∃ k:Nat,k≤l.length∧i=.int .i64 k∧Hid (∀ j (h:j < l.length),j < k→l[j] < n)∧w=wr) (fun i _=>l.length-(intOf i).toNat)
 case atStart=>exact⟨0,Nat.zero_le _,rfl,hid (by intro j h h0;omega),rfl⟩
 case round=>
  obtain⟨k,hk,rfl,HF,rfl⟩:=hrel
  have uA:=hid hk
  have HT1:Hid (∀ W,Below w.heap.size w W→∀ j u,(fG (l.take k))[j]? =some u→W.cell? ((⟨b,o,none⟩:Addr).add j)=some u):=hid (fun W hW j u hu=>by
   have hj:j < (l.take k).length:=by have:=(List.getElem?_eq_some_iff.1 hu).1;rwa [nK]at this
   rw[uX _ _ hj]at hu
   rw[List.length_take]at hj
   have:=later hW (HX.out j (by omega))
   rw[List.getElem_take]at hu
   rw[←hu,←this,Wi])
  have HT2:Hid (∀ W,Below w.heap.size w W→∀ j u,(fG (l.drop k))[j]? =some u→W.cell? ((⟨b,o+k,none⟩:Addr).add j)=some u):=hid (fun W hW j u hu=>by
   have hj:j < (l.drop k).length:=by have:=(List.getElem?_eq_some_iff.1 hu).1;rwa [nK]at this
   rw[uX _ _ hj]at hu
   rw[List.length_drop]at hj
   have:=later hW (HX.out (k+j) (by omega))
   rw[List.getElem_drop]at hu
   rw[←hu,←this,Wi,Nat.add_assoc])
  have j2:(0:Int)≤(k:Int):=by omega
  have j5:(k:Int)≤(cap:Int):=by have:=HC.out;omega
  have j6:(k:Int)≤(l.length:Int):=by omega
  have j7:(l.length:Int)≤(cap:Int):=by have:=HC.out;omega
  by_cases hlt:k < l.length
  ·have j1:decide ((k:Int) < (l.length:Int))=true:=by rw[decide_eq_true_iff];omega
   have j3:IntKind.i64.wrap ((k:Int)+1)=(k:Int)+1:=IntWalk.i64_in _ (by have:=HL.out;omega)
   have j4:decide (k < l.length)=true:=by rw[decide_eq_true_iff];omega
   have c:=HX.out k hlt
   by_cases hv:l[k] < n
   ·have n1:decide (l[k] < n)=true:=decide_eq_true hv
    go_wp2_with fail
    go_roundw
    case rel=>exact⟨k+1,hlt,by go_num,hid (fun j h hj=>by
     by_cases hjk:j=k
     ·subst hjk;exact hv
     ·exact HF.out j h (by omega)),trivial⟩
    case measure=>simp[intOf];omega
   have n1:decide (l[k] < n)=false:=decide_eq_false hv
   by_cases he:l[k]=n
   ·have n2:(l[k]==n)=true:=by simpa using he
    have n2':decide (l[k]=n)=true:=decide_eq_true he
    have HP:=hid (DR hlt HF.out hv)
    go_wp2_with fail
    exact bodyPost_ret (v:=.slice (some ⟨b,o,none⟩) l.length cap) (by simp[results,Tryd.results63,go_sem]) rfl ⟨_,rfl,af _,Or.inl ⟨rfl,by rw[HP.out,if_pos he]⟩⟩
   have hck:¬ cap=k:=by have:=HC.out;omega
   have n2:(l[k]==n)=false:=by simpa using he
   have n2':decide (l[k]=n)=false:=decide_eq_false he
   have HP:Hid (fP l n=l.take k++n :: l.drop k):=hid (by rw[DR hlt HF.out hv,if_neg he])
   have yA:=World.ownsRow_made (base:=w.heap.size) (size:=1) (e:=3) w #[] 0 (Nat.le_refl _) (by decide) rfl
   have hb0:Below w.heap.size w (w.alloc (.cells #[] 3)):=ah (af _) _
   go_wp2_with (first
    | (at_builtin;refine wpList_append_own_at _ rfl (.tmp 34) (.tmp 37) 32 rfl w.heap.size 3 i0 _ 1 8 Tryd.underlying32 hi0 hz0 hz1 hz2 rfl (by decide) (.slice (some ⟨w.heap.size,0,none⟩) 0 0) 0 [] rfl yA ⟨b,o,none⟩ k cap (fG (l.take k)) rfl (by rw[nK,List.length_take];have:=uA.out;omega) (HT1.out _ hb0) (kG _) (by have:=HL.out;have:=uA.out;unfold maxLen;omega) (by have:=HL.out;have:=uA.out;omega) hb0.size ?_;intro v1 w1 hown1 hg1 hn1 hd1;rw[Nat.zero_add,List.nil_append]at hown1;have hb1:Below w.heap.size w w1:=hb0.grown hg1 hb0.size (fun k hk=>(yA.lt k hk).1);have rO:=fC hown1 (ah (af _) (.cells #[.int .i64 n] 3));have hb1':Below w.heap.size w (w1.alloc (.cells #[.int .i64 n] 3)):=ah hb1 _;have cn:=(aA.new w1 #[.int .i64 n] 3).cell 0 (v:=.int .i64 n) rfl)
    | (at_builtin;refine wpList_append_own_at _ rfl (.tmp 38) (.tmp 40) 32 rfl w.heap.size 3 i0 _ 1 8 Tryd.underlying32 hi0 hz0 hz1 hz2 rfl (by decide) v1 _ _ rfl rO ⟨w1.heap.size,0,none⟩ 1 1 [.int .i64 n] rfl rfl (by intro j u hu;cases j with | zero=>(simp at hu;subst hu;exact cn) | succ j=>(simp at hu)) (by intro u hu;simp at hu;subst hu;rfl) (by have:=HL.out;have:=uA.out;unfold maxLen;omega) (by have:=HL.out;have:=uA.out;omega) hb1'.size ?_;intro v2 w2 hown2 hg2 hn2 hd2;have hb2:Below w.heap.size w w2:=hb1'.grown hg2 hb1'.size (fun k hk=>(rO.lt k hk).1);obtain⟨g2,cp2,rfl⟩:=fA hown2)
    | (at_builtin;refine wpList_append_own_at _ rfl (.tmp 42) (.tmp 45) 32 rfl w.heap.size 3 i0 _ 1 8 Tryd.underlying32 hi0 hz0 hz1 hz2 rfl (by decide) (.slice (some ⟨g2,0,none⟩) (k+1) cp2) _ _ rfl hown2 ⟨b,o+k,none⟩ (l.length-k) (cap-k) (fG (l.drop k)) rfl (by rw[nK,List.length_drop];omega) (HT2.out _ hb2) (kG _) (by have:=HL.out;have:=uA.out;unfold maxLen;omega) (by have:=HL.out;have:=uA.out;omega) hb2.size ?_;intro v3 w3 hown3 hg3 hn3 hd3)
    | fail)
   have hb3:Below w.heap.size w w3:=hb2.grown hg3 hb2.size (fun k hk=>(hown2.lt k hk).1)
   have hrow:bU w3 w.heap.size 3 1 v3 (fP l n).length (fG (fP l n)):=⟨by rw[HP.out];have e:(l.take k++n :: l.drop k).length=k+1+(l.length-k):=(by simp;omega);rw[e];simpa[fG]using hown3,fun h=>by rw[HP.out]at h;simp at h⟩
   exact bodyPost_ret (v:=v3) (by simp[results,Tryd.results63,go_sem]) rfl ⟨_,rfl,hb3,Or.inr hrow⟩
  ·have j1:decide ((k:Int) < (l.length:Int))=false:=by rw[decide_eq_false_iff_not];omega
   have HP:Hid (fP l n=l.take k++n :: l.drop k):=hid (by rw[Mc (fun j h=>HF.out j h (by omega)),List.take_of_length_le (by omega),List.drop_eq_nil_of_le (by omega)])
   by_cases hck:cap=k
   ·obtain rfl:k=l.length:=by omega
    subst hck
    have yA:=World.ownsRow_made (base:=w.heap.size) (size:=1) (e:=3) w #[] 0 (Nat.le_refl _) (by decide) rfl
    have hb0:Below w.heap.size w (w.alloc (.cells #[] 3)):=ah (af _) _
    go_wp2_with (first
     | (at_builtin;refine wpList_append_own_at _ rfl (.tmp 34) (.tmp 37) 32 rfl w.heap.size 3 i0 _ 1 8 Tryd.underlying32 hi0 hz0 hz1 hz2 rfl (by decide) (.slice (some ⟨w.heap.size,0,none⟩) 0 0) 0 [] rfl yA ⟨b,o,none⟩ l.length l.length (fG (l.take l.length)) rfl (by rw[nK,List.length_take];have:=uA.out;omega) (HT1.out _ hb0) (kG _) (by have:=HL.out;have:=uA.out;unfold maxLen;omega) (by have:=HL.out;have:=uA.out;omega) hb0.size ?_;intro v1 w1 hown1 hg1 hn1 hd1;rw[Nat.zero_add,List.nil_append]at hown1;have hb1:Below w.heap.size w w1:=hb0.grown hg1 hb0.size (fun k hk=>(yA.lt k hk).1);have rO:=fC hown1 (ah (af _) (.cells #[.int .i64 n] 3));have hb1':Below w.heap.size w (w1.alloc (.cells #[.int .i64 n] 3)):=ah hb1 _;have cn:=(aA.new w1 #[.int .i64 n] 3).cell 0 (v:=.int .i64 n) rfl)
     | (at_builtin;refine wpList_append_own_at _ rfl (.tmp 38) (.tmp 40) 32 rfl w.heap.size 3 i0 _ 1 8 Tryd.underlying32 hi0 hz0 hz1 hz2 rfl (by decide) v1 _ _ rfl rO ⟨w1.heap.size,0,none⟩ 1 1 [.int .i64 n] rfl rfl (by intro j u hu;cases j with | zero=>(simp at hu;subst hu;exact cn) | succ j=>(simp at hu)) (by intro u hu;simp at hu;subst hu;rfl) (by have:=HL.out;have:=uA.out;unfold maxLen;omega) (by have:=HL.out;have:=uA.out;omega) hb1'.size ?_;intro v2 w2 hown2 hg2 hn2 hd2;have hb2:Below w.heap.size w w2:=hb1'.grown hg2 hb1'.size (fun k hk=>(rO.lt k hk).1);obtain⟨g2,cp2,rfl⟩:=fA hown2)
     | (at_builtin;refine wpList_append_own_at _ rfl (.tmp 42) (.tmp 45) 32 rfl w.heap.size 3 i0 _ 1 8 Tryd.underlying32 hi0 hz0 hz1 hz2 rfl (by decide) (.slice (some ⟨g2,0,none⟩) (l.length+1) cp2) _ _ rfl hown2 ⟨b,o,none⟩ 0 0 ([]:List Value) rfl rfl (by intro j u hu;simp at hu) (by intro u hu;cases hu) (by have:=HL.out;have:=uA.out;unfold maxLen;omega) (by have:=HL.out;have:=uA.out;omega) hb2.size ?_;intro v3 w3 hown3 hg3 hn3 hd3)
     | fail)
    have hb3:Below w.heap.size w w3:=hb2.grown hg3 hb2.size (fun k hk=>(hown2.lt k hk).1)
    have hrow:bU w3 w.heap.size 3 1 v3 (fP l n).length (fG (fP l n)):=⟨by rw[HP.out];have e:(l.take l.length++n :: l.drop l.length).length=l.length+1+0:=(by simp);rw[e];simpa[fG]using hown3,fun h=>by rw[HP.out]at h;simp at h⟩
    exact bodyPost_ret (v:=v3) (by simp[results,Tryd.results63,go_sem]) rfl ⟨_,rfl,hb3,Or.inr hrow⟩
   ·have yA:=World.ownsRow_made (base:=w.heap.size) (size:=1) (e:=3) w #[] 0 (Nat.le_refl _) (by decide) rfl
    have hb0:Below w.heap.size w (w.alloc (.cells #[] 3)):=ah (af _) _
    go_wp2_with (first
     | (at_builtin;refine wpList_append_own_at _ rfl (.tmp 34) (.tmp 37) 32 rfl w.heap.size 3 i0 _ 1 8 Tryd.underlying32 hi0 hz0 hz1 hz2 rfl (by decide) (.slice (some ⟨w.heap.size,0,none⟩) 0 0) 0 [] rfl yA ⟨b,o,none⟩ k cap (fG (l.take k)) rfl (by rw[nK,List.length_take];have:=uA.out;omega) (HT1.out _ hb0) (kG _) (by have:=HL.out;have:=uA.out;unfold maxLen;omega) (by have:=HL.out;have:=uA.out;omega) hb0.size ?_;intro v1 w1 hown1 hg1 hn1 hd1;rw[Nat.zero_add,List.nil_append]at hown1;have hb1:Below w.heap.size w w1:=hb0.grown hg1 hb0.size (fun k hk=>(yA.lt k hk).1);have rO:=fC hown1 (ah (af _) (.cells #[.int .i64 n] 3));have hb1':Below w.heap.size w (w1.alloc (.cells #[.int .i64 n] 3)):=ah hb1 _;have cn:=(aA.new w1 #[.int .i64 n] 3).cell 0 (v:=.int .i64 n) rfl)
     | (at_builtin;refine wpList_append_own_at _ rfl (.tmp 38) (.tmp 40) 32 rfl w.heap.size 3 i0 _ 1 8 Tryd.underlying32 hi0 hz0 hz1 hz2 rfl (by decide) v1 _ _ rfl rO ⟨w1.heap.size,0,none⟩ 1 1 [.int .i64 n] rfl rfl (by intro j u hu;cases j with | zero=>(simp at hu;subst hu;exact cn) | succ j=>(simp at hu)) (by intro u hu;simp at hu;subst hu;rfl) (by have:=HL.out;have:=uA.out;unfold maxLen;omega) (by have:=HL.out;have:=uA.out;omega) hb1'.size ?_;intro v2 w2 hown2 hg2 hn2 hd2;have hb2:Below w.heap.size w w2:=hb1'.grown hg2 hb1'.size (fun k hk=>(rO.lt k hk).1);obtain⟨g2,cp2,rfl⟩:=fA hown2)
     | (at_builtin;refine wpList_append_own_at _ rfl (.tmp 42) (.tmp 45) 32 rfl w.heap.size 3 i0 _ 1 8 Tryd.underlying32 hi0 hz0 hz1 hz2 rfl (by decide) (.slice (some ⟨g2,0,none⟩) (k+1) cp2) _ _ rfl hown2 ⟨b,o+k,none⟩ (l.length-k) (cap-k) (fG (l.drop k)) rfl (by rw[nK,List.length_drop];omega) (HT2.out _ hb2) (kG _) (by have:=HL.out;have:=uA.out;unfold maxLen;omega) (by have:=HL.out;have:=uA.out;omega) hb2.size ?_;intro v3 w3 hown3 hg3 hn3 hd3)
     | fail)
    have hb3:Below w.heap.size w w3:=hb2.grown hg3 hb2.size (fun k hk=>(hown2.lt k hk).1)
    have hrow:bU w3 w.heap.size 3 1 v3 (fP l n).length (fG (fP l n)):=⟨by rw[HP.out];have e:(l.take k++n :: l.drop k).length=k+1+(l.length-k):=(by simp;omega);rw[e];simpa[fG]using hown3,fun h=>by rw[HP.out]at h;simp at h⟩
    exact bodyPost_ret (v:=v3) (by simp[results,Tryd.results63,go_sem]) rfl ⟨_,rfl,hb3,Or.inr hrow⟩
end Go.Proofs.YtcddlnmcjmhbcaaDoor
-- short
