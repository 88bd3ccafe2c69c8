/-
  Joined texts: ShD ShI ShJ.
-/
namespace Go.Proofs.YtcddlnmcjmhbcaaDoor
set_option linter.unusedVariables false
structure Ev where
 kind:Int
 th:Int
 tx:Int
 at_:Int
 v:Int
 x:Int
 why:Int
theorem Ev.ext' {a b:Ev} (h1:a.kind=b.kind) (h2:a.th=b.th) (h3:a.tx=b.tx) (h4:a.at_=b.at_) (h5:a.v=b.v) (h6:a.x=b.x) (h7:a.why=b.why):a=b:=by
 cases a;cases b;simp only[Ev.mk.injEq];exact⟨h1,h2,h3,h4,h5,h6,h7⟩
def aT (e:Ev):Ev:=
 if e.kind=1 then⟨e.kind,e.th,e.tx,0,e.v,0,0⟩
 else if e.kind=2 then⟨e.kind,e.th,0,e.at_,e.v,0,0⟩
 else if e.kind=3∨e.kind=8 then⟨e.kind,e.th,0,e.at_,0,e.x,0⟩
 else if e.kind=4∨e.kind=6∨e.kind=9∨e.kind=11 then⟨e.kind,e.th,0,e.at_,0,0,0⟩
 else if e.kind=5∨e.kind=7 then⟨e.kind,e.th,0,0,e.v,0,0⟩
 else if e.kind=10 then⟨e.kind,e.th,0,e.at_,0,0,e.why⟩
 else⟨e.kind,e.th,0,0,0,0,0⟩
def kD (T V S:Int):Bool:=decide (1≤T∧T≤6∧1≤V∧V≤32∧1≤S∧S≤V)
def dV (e:Ev) (V S:Int):Int:=if e.kind=3∨e.kind=8 then V else if e.kind=10∧e.why=6 then 1 else S
def je (e:Ev):Int:=if e.kind=5 then 1 else 0
def jH (e:Ev) (T V S:Int):Bool:=
 kD T V S&&decide (1≤e.kind∧e.kind≤13∧(e.kind=10→1≤e.why∧e.why≤6)∧0≤e.th∧e.th < T∧0≤e.tx∧e.tx≤5∧je e≤e.v∧e.v≤1099511627776∧0≤e.at_∧e.at_ < dV e V S)&&
  decide (e.kind=(aT e).kind∧e.th=(aT e).th∧e.tx=(aT e).tx∧e.at_=(aT e).at_∧e.v=(aT e).v∧e.x=(aT e).x∧e.why=(aT e).why)
structure Th where
 at_:Int
 aP:Int
 rv:Int
 wv:Int
 dJ:Int
 v:Int
 read:Nat
 owned:Nat
 stored:Nat
 check:Nat
 locked:Int
 var:Int
 full:Bool
def Th.zero:Th:=⟨0,0,0,0,0,0,0,0,0,0,0,0,false⟩
structure Sh where
 vars:Int
 clock:Int
 aN:List Th
 aX:List (Int×Int)
def qf (m s:Nat):Nat:=m||| 2 ^ s
def fV (m s:Nat):Nat:=m ^^^ (m&&& 2 ^ s)
def bH (m:Nat):Nat:=((List.range 32).find? fun i=>m.testBit i).getD 32
theorem gq (m s i:Nat):(qf m s).testBit i=(m.testBit i||decide (s=i)):=by
 unfold qf;rw[Nat.testBit_or,Nat.testBit_two_pow]
theorem iE (m s i:Nat):(fV m s).testBit i=(m.testBit i&&!decide (s=i)):=by
 unfold fV;rw[Nat.testBit_xor,Nat.testBit_and,Nat.testBit_two_pow]
 cases m.testBit i <;> cases decide (s=i) <;> rfl
theorem uI {m s:Nat} (hm:m < 4294967296) (hs:s < 32):qf m s < 4294967296:=by
 have h2:2 ^ s < 2 ^ 32:=Nat.pow_lt_pow_right (by omega) hs
 exact Nat.or_lt_two_pow (n:=32) hm h2
theorem qy {m s:Nat} (hm:m < 4294967296):fV m s < 4294967296:=
 Nat.xor_lt_two_pow (n:=32) hm (Nat.lt_of_le_of_lt Nat.and_le_left hm)
theorem iw {m:Nat} (h:bH m < 32):m.testBit (bH m)=true:=by
 unfold bH at h⊢
 cases hf:(List.range 32).find? fun i=>m.testBit i with
 | none=>rw[hf]at h;simp at h
 | some i=>simpa using List.find?_some hf
theorem yK {m i:Nat} (h:m.testBit i=true) (hi:i < 32):bH m≤i:=by
 unfold bH
 cases hf:(List.range 32).find? fun i=>m.testBit i with
 | none=>
  have:=List.find?_eq_none.1 hf i (List.mem_range.2 hi)
  simp[h]at this
 | some j=>
  simp only[Option.getD_some]
  rcases Nat.lt_or_ge i j with hlt | hge
  ·have:=List.find?_range_eq_some.1 hf
   have h2:=this.2.2 i hlt
   simp[h]at h2
  ·exact hge
theorem qF {m:Nat} (hm:m < 4294967296) (h:∀ i,i < 32→m.testBit i=false):m=0:=by
 apply Nat.eq_of_testBit_eq
 intro i
 rw[Nat.zero_testBit]
 rcases Nat.lt_or_ge i 32 with hi | hi
 ·exact h i hi
 ·exact Nat.testBit_lt_two_pow (Nat.lt_of_lt_of_le (show m < 2 ^ 32 from hm) (Nat.pow_le_pow_right (by omega) hi))
def Sh.own (s:Sh) (i:Int):Int:=(s.aX.getD i.toNat (-1,0)).1
def Sh.jD (s:Sh) (i:Int):Int:=(s.aX.getD i.toNat (-1,0)).2
def Sh.setSt (s:Sh) (i:Int) (p:Int×Int):Sh:={ s with aX:=s.aX.set i.toNat p }
def Sh.aI (s:Sh) (i:Int) (t:Th):Sh:={ s with aN:=s.aN.set i.toNat t }
def Sh.th (s:Sh) (i:Int):Th:=s.aN.getD i.toNat Th.zero
def Sh.n (s:Sh):Int:=s.aX.length
def Sh.yD (s:Sh) (i th:Int):Bool:=decide (s.own i≠-1∧s.own i≠th)
def iU (s:Sh) (t:Th) (e:Ev):Option Sh:=
 if t.at_=0∧e.tx=t.aP∧s.clock≤e.v then some ({ s with clock:=e.v }.aI e.th ⟨1,t.aP,e.v,0,0,0,0,0,0,0,-1,-1,false⟩)else none
def lJ (s:Sh) (t:Th) (e:Ev):Option Sh:=
 if t.at_=1∧s.own e.at_=-1∧s.jD e.at_≤e.v∧e.v≤t.rv then some ((s.setSt e.at_ (-1,e.v)).aI e.th { t with at_:=2,dJ:=e.at_,v:=e.v })else none
def lK (s:Sh) (t:Th) (e:Ev):Option Sh:=
 if t.at_=2∧e.at_ % s.n=t.dJ∧s.own t.dJ=-1∧s.jD t.dJ=t.v then some (s.aI e.th { t with at_:=1,read:=qf t.read t.dJ.toNat })else none
def mF (s:Sh) (t:Th) (e:Ev):Option Sh:=
 if(t.at_=1∨t.at_=3)∧t.locked < e.at_∧s.own e.at_=-1 then some ((s.setSt e.at_ (e.th,s.jD e.at_)).aI e.th { t with at_:=3,locked:=e.at_,owned:=qf t.owned e.at_.toNat })else none
def kR (s:Sh) (t:Th) (e:Ev):Option Sh:=
 if t.at_=3∧s.clock < e.v then some ({ s with clock:=e.v }.aI e.th { t with at_:=4,wv:=e.v,check:=if e.v=t.rv+1 then t.check else t.read })else none
def ji (s:Sh) (t:Th) (e:Ev):Option Sh:=
 if t.at_=4∧e.at_=bH t.check∧s.yD e.at_ e.th=false∧s.jD e.at_≤t.rv then some (s.aI e.th { t with check:=fV t.check e.at_.toNat })else none
def eu (s:Sh) (t:Th) (e:Ev):Option Sh:=
 if e.v=0∧t.at_=1 then some (s.aI e.th { t with at_:=0,aP:=t.aP+1 })
 else if e.v≠0∧t.at_=4∧t.check=0∧e.v=t.wv then some (s.aI e.th { t with at_:=5 })else none
def jb (s:Sh) (t:Th) (e:Ev):Option Sh:=
 if t.at_=5∧t.var < e.at_∧t.owned.testBit (e.at_ % s.n).toNat=true then some (s.aI e.th { t with var:=e.at_,stored:=qf t.stored (e.at_ % s.n).toNat })else none
def iT (s:Sh) (t:Th) (e:Ev):Option Sh:=
 if(t.at_=6∨(t.at_=5∧t.stored=t.owned))∧e.at_=bH t.owned then
  some ((s.setSt e.at_ (-1,t.wv)).aI e.th (if fV t.owned e.at_.toNat=0 then{ t with at_:=0,owned:=fV t.owned e.at_.toNat,aP:=t.aP+1 } else{ t with at_:=6,owned:=fV t.owned e.at_.toNat }))
 else none
def dA (s:Sh) (t:Th) (e:Ev):Bool:=
 if e.why=1 then decide (t.at_=1)&&s.yD e.at_ e.th
 else if e.why=2 then decide (t.at_=1∧s.own e.at_=-1∧t.rv < s.jD e.at_)
 else if e.why=3 then decide (t.at_=2∧e.at_=t.dJ∧¬ (s.own t.dJ=-1∧s.jD t.dJ=t.v))
 else if e.why=4 then decide ((t.at_=1∨t.at_=3)∧t.locked < e.at_)&&s.yD e.at_ e.th
 else if e.why=5 then decide (t.at_=4∧e.at_=bH t.check)&&(s.yD e.at_ e.th||decide (t.rv < s.jD e.at_))
 else if e.why=6 then decide (t.at_=3)
 else false
def jk (s:Sh) (t:Th) (e:Ev):Option Sh:=
 if dA s t e=true then some (s.aI e.th { t with at_:=if t.owned=0 then 0 else 7,full:=decide (e.why=6) })else none
def jX (s:Sh) (t:Th) (e:Ev):Option Sh:=
 if t.at_=7∧e.at_=bH t.owned then
  some ((s.setSt e.at_ (-1,s.jD e.at_)).aI e.th { t with at_:=if fV t.owned e.at_.toNat=0 then(if t.full then 9 else 0)else 7,owned:=fV t.owned e.at_.toNat })
 else none
def oz (s:Sh) (t:Th) (e:Ev):Option Sh:=
 if t.at_=1 then some (s.aI e.th { t with at_:=8 })else none
def x9 (s:Sh) (t:Th):Bool:=(List.range s.aX.length).any fun i=>t.read.testBit i&&decide (s.own i=-1∧t.rv < s.jD i)
def ny (s:Sh) (t:Th) (e:Ev):Option Sh:=
 if t.at_=8∧x9 s t=true then some (s.aI e.th { t with at_:=0 })else none
def nZ (s:Sh) (t:Th) (e:Ev):Option Sh:=
 if e.kind=1 then iU s t e else if e.kind=2 then lJ s t e else if e.kind=3 then lK s t e else if e.kind=4 then mF s t e
 else if e.kind=5 then kR s t e else if e.kind=6 then ji s t e else if e.kind=7 then eu s t e else if e.kind=8 then jb s t e
 else if e.kind=9 then iT s t e else if e.kind=10 then jk s t e else if e.kind=11 then jX s t e else if e.kind=12 then oz s t e
 else ny s t e
def stepS (s:Sh) (e:Ev):Option Sh:=if jH e s.aN.length s.vars s.n=true then nZ s (s.th e.th) e else none
def jc (s:Sh):List Ev→Option Sh
 | []=>some s
 | e :: l=>match stepS s e with
  | some s'=>jc s' l
  | none=>none
def jJ (s:Sh):List Ev→Nat
 | []=>0
 | e :: l=>match stepS s e with
  | some s'=>jJ s' l+1
  | none=>0
def fF (T V S:Int):Sh:=⟨V,0,List.replicate T.toNat Th.zero,List.replicate S.toNat (-1,0)⟩
def eY (T V S:Int):Bool:=decide (0≤T∧T≤6∧1≤V∧V≤32∧1≤S∧S≤V)
def aW (T V S:Int) (l:List Ev):Int×Int:=
 if eY T V S=false then(0,1)else if 1048576 < l.length then(0,40)else
  if jJ (fF T V S) l < l.length then(((jJ (fF T V S) l:Nat):Int),4)else(((l.length:Nat):Int),0)
theorem KD (l:List Ev):∀ s,jJ s l≤l.length:=by
 induction l with
 | nil=>intro s;simp[jJ]
 | cons e l ih=>
  intro s
  unfold jJ
  cases h:stepS s e with
  | none=>simp
  | some s'=>simp only[List.length_cons];have:=ih s';omega
theorem qX (l m:List Ev):∀ s,jc s (l++m)=(jc s l).bind fun s'=>jc s' m:=by
 induction l with
 | nil=>intro s;rfl
 | cons e l ih=>
  intro s
  simp only[List.cons_append,jc]
  cases stepS s e with
  | none=>rfl
  | some s'=>exact ih s'
theorem vX (l:List Ev) (e:Ev) (s:Sh):jc s (l++[e])=(jc s l).bind fun s'=>stepS s' e:=by
 rw[qX]
 cases jc s l with
 | none=>rfl
 | some s'=>
  simp only[Option.bind_some,jc]
  cases stepS s' e <;> rfl
theorem Bc (l:List Ev):∀ s,jJ s l=l.length↔(jc s l).isSome=true:=by
 induction l with
 | nil=>intro s;simp[jJ,jc]
 | cons e l ih=>
  intro s
  unfold jJ jc
  cases h:stepS s e with
  | none=>simp
  | some s'=>simp only[List.length_cons,Nat.add_right_cancel_iff];exact ih s'
theorem Ap {l:List Ev} {k:Nat} {s s':Sh} (h:jc s l=some s'):∃ r,jc s (l.take k)=some r:=by
 have h1:jc s (l.take k++l.drop k)=some s':=by rw[List.take_append_drop];exact h
 rw[qX]at h1
 cases hr:jc s (l.take k)with
 | none=>rw[hr]at h1;cases h1
 | some r=>exact⟨r,rfl⟩
theorem Js {l:List Ev} {k:Nat} {s s' r:Sh} (h:jc s l=some s') (hk:k < l.length) (hr:jc s (l.take k)=some r):∃ r',stepS r l[k]=some r'∧jc s (l.take (k+1))=some r':=by
 obtain⟨r',h1⟩:=Ap (k:=k+1) h
 have e:l.take (k+1)=l.take k++[l[k]]:=by
  rw[List.take_succ_eq_append_getElem hk]
 have h2:=h1
 rw[e,vX,hr]at h2
 exact⟨r',h2,h1⟩
end Go.Proofs.YtcddlnmcjmhbcaaDoor
namespace Go.Proofs.YtcddlnmcjmhbcaaDoor
set_option linter.unusedVariables false
structure U0 (s:Sh) (i:Nat) (t:Th):Prop where
 at0:0≤t.at_∧t.at_≤9
 st:0≤t.dJ∧t.dJ < s.n
 own:∀ b,t.owned.testBit b=true→b < s.aX.length∧(s.aX.getD b (-1,0)).1=(i:Int)
 m1:t.read < 4294967296
 m2:t.owned < 4294967296
 m3:t.stored < 4294967296
 m4:t.check < 4294967296
 idle:t.at_=0∨t.at_=1∨t.at_=2∨t.at_=8∨t.at_=9→t.owned=0
 busy:t.at_=3∨t.at_=4∨t.at_=5∨t.at_=6∨t.at_=7→t.owned≠0
 Lh:0≤t.rv∧t.rv≤s.clock
 Jm:0≤t.wv∧t.wv≤s.clock
 com:0≤t.aP
 Cf:t.locked < 32∧t.var < 32∧-1≤t.locked∧-1≤t.var
structure Wf (s:Sh):Prop where
 size:1≤s.aX.length∧(s.aX.length:Int)≤s.vars∧s.vars≤32∧s.aN.length≤6
 clk:0≤s.clock∧s.clock≤1099511627776
 th:∀ i,i < s.aN.length→U0 s i (s.aN.getD i Th.zero)
 Xo:∀ i,i < s.aX.length→(-1≤(s.aX.getD i (-1,0)).1∧(s.aX.getD i (-1,0)).1 < s.aN.length)∧0≤(s.aX.getD i (-1,0)).2∧(s.aX.getD i (-1,0)).2≤1099511627776
theorem aQ {α:Type} (l:List α) (i:Nat) (x d:α) (h:i < l.length):(l.set i x).getD i d=x:=by
 simp[List.getD,h]
theorem getD_set_ne {α:Type} (l:List α) (i j:Nat) (x d:α) (h:i≠j):(l.set i x).getD j d=l.getD j d:=by
 simp[List.getD,List.getElem?_set_ne h]
theorem oI {e:Ev} {T V S:Int} (h:jH e T V S=true):(1≤e.kind∧e.kind≤13)∧(0≤e.th∧e.th < T)∧(0≤e.tx∧e.tx≤5)∧(0≤e.v∧e.v≤1099511627776)∧(0≤e.at_∧e.at_ < dV e V S)∧(1≤S∧S≤V∧V≤32∧T≤6):=by
 unfold jH kD at h
 simp only[Bool.and_eq_true,decide_eq_true_eq]at h
 have hl:0≤je e:=by unfold je;split <;> omega
 omega
theorem nH {e:Ev} {V S:Int} (h1:e.kind≠3) (h2:e.kind≠8) (hS:1≤S):dV e V S≤S:=by
 unfold dV;rw[if_neg (by omega)];split <;> omega
theorem yw {e:Ev} {V S:Int} (hS:1≤S) (hV:S≤V):dV e V S≤V:=by
 unfold dV;split
 ·omega
 ·split <;> omega
theorem Wf.mk' {s s':Sh} (hw:Wf s) {th:Nat} {t':Th} (hth:th < s.aN.length) (kM:s'.aN=s.aN.set th t') (hvars:s'.vars=s.vars)
  (wH:s.clock≤s'.clock∧s'.clock≤1099511627776)
  (J9:s'.aX=s.aX∨∃ a p,s'.aX=s.aX.set a p∧a < s.aX.length∧(-1≤p.1∧p.1 < s.aN.length)∧(0≤p.2∧p.2≤1099511627776)∧((s.aX.getD a (-1,0)).1=-1∨(s.aX.getD a (-1,0)).1=(th:Int)))
  (ht:U0 s' th t'):Wf s':=by
 have hlen:s'.aX.length=s.aX.length:=by rcases J9 with h | ⟨a,p,h,-⟩ <;> rw[h] <;> simp
 have hn:s'.n=s.n:=by unfold Sh.n;rw[hlen]
 refine⟨?_,?_,?_,?_⟩
 ·rw[hlen,hvars,kM,List.length_set];exact hw.size
 ·have:=hw.clk;omega
 ·intro i hi
  rw[kM,List.length_set]at hi
  by_cases he:th=i
  ·subst he
   rw[kM,aQ _ _ _ _ hi];exact ht
  ·rw[kM,getD_set_ne _ _ _ _ _ he]
   have h:=hw.th i hi
   refine⟨h.at0,by rw[hn];exact h.st,fun b hb=>?_,h.m1,h.m2,h.m3,h.m4,h.idle,h.busy,⟨h.Lh.1,by have:=h.Lh.2;omega⟩,⟨h.Jm.1,by have:=h.Jm.2;omega⟩,h.com,h.Cf⟩
   obtain⟨h1,h2⟩:=h.own b hb
   refine⟨by rw[hlen];exact h1,?_⟩
   rcases J9 with hs | ⟨a,p,hs,ha,-,-,hown⟩
   ·rw[hs];exact h2
   ·rw[hs]
    by_cases hab:a=b
    ·subst hab;omega
    ·rw[getD_set_ne _ _ _ _ _ hab];exact h2
 ·intro i hi
  rw[hlen]at hi
  rw[kM,List.length_set]
  rcases J9 with hs | ⟨a,p,hs,ha,hp1,hp2,-⟩
  ·rw[hs];exact hw.Xo i hi
  ·rw[hs]
   by_cases hab:a=i
   ·subst hab;rw[aQ _ _ _ _ ha];exact⟨hp1,hp2⟩
   ·rw[getD_set_ne _ _ _ _ _ hab];exact hw.Xo i hi
theorem Pm (m s:Nat):qf m s≠0:=by
 intro h
 have:=gq m s s
 rw[h,Nat.zero_testBit]at this
 simp at this
theorem xN {T V S:Int} (h:eY T V S=true):Wf (fF T V S):=by
 unfold eY at h
 rw[decide_eq_true_eq]at h
 have hz:∀ i,i < T.toNat→(List.replicate T.toNat Th.zero).getD i Th.zero=Th.zero:=by intro i hi;simp[List.getD,hi]
 have hs:∀ i,i < S.toNat→(List.replicate S.toNat ((-1:Int),(0:Int))).getD i (-1,0)=(-1,0):=by intro i hi;simp[List.getD,hi]
 refine⟨?_,by simp[fF],?_,?_⟩
 ·simp only[fF,List.length_replicate];omega
 ·intro i hi
  simp only[fF,List.length_replicate]at hi
  show U0 _ i ((List.replicate T.toNat Th.zero).getD i Th.zero)
  rw[hz i hi]
  refine⟨by simp[Th.zero],?_,?_,by simp[Th.zero],by simp[Th.zero],by simp[Th.zero],by simp[Th.zero],by simp[Th.zero],by simp[Th.zero],by simp[Th.zero,fF],by simp[Th.zero,fF],by simp[Th.zero],by simp[Th.zero]⟩
  ·simp only[Th.zero,Sh.n,fF,List.length_replicate];omega
  ·intro b hb;simp[Th.zero]at hb
 ·intro i hi
  simp only[fF,List.length_replicate]at hi
  show(-1≤((List.replicate S.toNat ((-1:Int),(0:Int))).getD i (-1,0)).1∧((List.replicate S.toNat ((-1:Int),(0:Int))).getD i (-1,0)).1 < ((List.replicate T.toNat Th.zero).length:Int))∧0≤((List.replicate S.toNat ((-1:Int),(0:Int))).getD i (-1,0)).2∧((List.replicate S.toNat ((-1:Int),(0:Int))).getD i (-1,0)).2≤1099511627776
  rw[hs i hi,List.length_replicate];omega
end Go.Proofs.YtcddlnmcjmhbcaaDoor
namespace Go.Proofs.YtcddlnmcjmhbcaaDoor
set_option linter.unusedVariables false
theorem iL {s:Sh} (hw:Wf s):s.clock≤s.clock∧s.clock≤1099511627776:=⟨by omega,hw.clk.2⟩
theorem U0.same {s s':Sh} {i:Nat} {t t':Th} (h:U0 s i t) (J9:s'.aX=s.aX) (wH:s.clock≤s'.clock) (ho:t'.owned=t.owned)
  (at0:0≤t'.at_∧t'.at_≤9) (st:0≤t'.dJ∧t'.dJ < s.n) (m1:t'.read < 4294967296) (m3:t'.stored < 4294967296) (m4:t'.check < 4294967296)
  (idle:t'.at_=0∨t'.at_=1∨t'.at_=2∨t'.at_=8∨t'.at_=9→t.owned=0) (busy:t'.at_=3∨t'.at_=4∨t'.at_=5∨t'.at_=6∨t'.at_=7→t.owned≠0)
  (Lh:t'.rv=t.rv∨0≤t'.rv∧t'.rv≤s'.clock) (Jm:t'.wv=t.wv∨0≤t'.wv∧t'.wv≤s'.clock) (com:0≤t'.aP) (Cf:t'.locked < 32∧t'.var < 32∧-1≤t'.locked∧-1≤t'.var):U0 s' i t':=by
 have hn:s'.n=s.n:=by unfold Sh.n;rw[J9]
 refine⟨at0,by rw[hn];exact st,by rw[ho,J9];exact h.own,m1,by rw[ho];exact h.m2,m3,m4,by rw[ho];exact idle,by rw[ho];exact busy,?_,?_,com,Cf⟩
 ·rcases Lh with e | e
  ·rw[e];have:=h.Lh;omega
  ·exact e
 ·rcases Jm with e | e
  ·rw[e];have:=h.Jm;omega
  ·exact e
theorem Cb {a n:Int} (h:1≤n):0≤a % n∧a % n < n:=⟨Int.emod_nonneg _ (by omega),Int.emod_lt_of_pos _ (by omega)⟩
theorem uN (s:Sh) (i:Int):s.own i=(s.aX.getD i.toNat (-1,0)).1:=rfl
theorem Dz (s:Sh) (i:Int):s.jD i=(s.aX.getD i.toNat (-1,0)).2:=rfl
theorem qR {s s':Sh} {e:Ev} (hw:Wf s) (h:stepS s e=some s'):Wf s':=by
 unfold stepS at h
 split at h
 case isFalse=>cases h
 rename_i hm
 obtain⟨hk,hth,htx,hv,hat,hS⟩:=oI hm
 obtain⟨th,bY⟩:=Int.eq_ofNat_of_zero_le hth.1
 have hlt:th < s.aN.length:=by omega
 have htn:e.th.toNat=th:=by omega
 have hT:s.th e.th=s.aN.getD th Th.zero:=by unfold Sh.th;rw[htn]
 rw[hT]at h
 have ht:=hw.th th hlt
 generalize s.aN.getD th Th.zero=t at h ht
 have aan:e.at_ < 32:=by have:=yw (e:=e) hS.1 hS.2.1;have:=hw.size;omega
 have hsn:s.n=s.aX.length:=rfl
 have VD:=hw.Xo
 unfold nZ at h
 by_cases k1:e.kind=1
 ·rw[if_pos k1]at h
  unfold iU at h;split at h
  case isFalse=>cases h
  rename_i hc
  cases h
  refine hw.mk' (th:=th) hlt (by simp[Sh.aI,htn];rfl) rfl ⟨by simp[Sh.aI];omega,by simp[Sh.aI];omega⟩ (Or.inl rfl) ?_
  refine ht.same rfl (by simp[Sh.aI];omega) (by have:=ht.idle (Or.inl hc.1);simp;omega) (by simp) (by simp;exact(by have:=hw.size;rw[hsn];omega)) (by simp) (by simp) (by simp) (fun _=>ht.idle (Or.inl hc.1)) (by simp) (Or.inr (by simp[Sh.aI];omega)) (Or.inr (by simp[Sh.aI];omega)) (by simpa using ht.com) (by simp)
 rw[if_neg k1]at h
 by_cases k2:e.kind=2
 ·rw[if_pos k2]at h
  unfold lJ at h;split at h
  case isFalse=>cases h
  rename_i hc
  cases h
  have hp:=nH (e:=e) (V:=s.vars) (S:=s.n) (by omega) (by omega) hS.1
  have hai:e.at_.toNat < s.aX.length:=by omega
  refine hw.mk' (th:=th) hlt (by simp[Sh.aI,Sh.setSt,htn];rfl) rfl (iL hw) (Or.inr ⟨e.at_.toNat,(-1,e.v),rfl,hai,⟨by simp,by simp;omega⟩,by simp;omega,Or.inl (by rw[←uN];exact hc.2.1)⟩) ?_
  have ho:t.owned=0:=ht.idle (Or.inr (Or.inl hc.1))
  have hn':((s.setSt e.at_ (-1,e.v)).aI e.th { t with at_:=2,dJ:=e.at_,v:=e.v }).n=s.n:=by simp[Sh.n,Sh.aI,Sh.setSt]
  refine⟨by simp,by rw[hn'];exact⟨by simp;omega,by simp;rw[hsn];omega⟩,fun b hb=>by simp[ho]at hb,ht.m1,ht.m2,ht.m3,ht.m4,fun _=>ho,by simp,ht.Lh,ht.Jm,ht.com,ht.Cf⟩
 rw[if_neg k2]at h
 by_cases k3:e.kind=3
 ·rw[if_pos k3]at h
  unfold lK at h;split at h
  case isFalse=>cases h
  rename_i hc
  cases h
  refine hw.mk' (th:=th) hlt (by simp[Sh.aI,htn];rfl) rfl (iL hw) (Or.inl rfl) ?_
  have ho:t.owned=0:=ht.idle (Or.inr (Or.inr (Or.inl hc.1)))
  exact ht.same rfl (by simp[Sh.aI]) rfl (by simp) ht.st (uI ht.m1 (by have:=ht.st;have:=hw.size;rw[hsn]at*;omega)) ht.m3 ht.m4 (fun _=>ho) (by simp) (Or.inl rfl) (Or.inl rfl) ht.com ht.Cf
 rw[if_neg k3]at h
 by_cases k4:e.kind=4
 ·rw[if_pos k4]at h
  unfold mF at h;split at h
  case isFalse=>cases h
  rename_i hc
  cases h
  have hp:=nH (e:=e) (V:=s.vars) (S:=s.n) (by omega) (by omega) hS.1
  have hai:e.at_.toNat < s.aX.length:=by omega
  have hst:=VD _ hai
  refine hw.mk' (th:=th) hlt (by simp[Sh.aI,Sh.setSt,htn];rfl) rfl (iL hw) (Or.inr ⟨e.at_.toNat,(e.th,s.jD e.at_),rfl,hai,by simp only;omega,by simp only;rw[Dz];exact hst.2,Or.inl (by rw[←uN];exact hc.2.2)⟩) ?_
  have hn':((s.setSt e.at_ (e.th,s.jD e.at_)).aI e.th { t with at_:=3,locked:=e.at_,owned:=qf t.owned e.at_.toNat }).n=s.n:=by simp[Sh.n,Sh.aI,Sh.setSt]
  refine⟨by simp,by rw[hn'];exact ht.st,fun b hb=>?_,ht.m1,uI ht.m2 (by omega),ht.m3,ht.m4,by simp,fun _=>Pm _ _,ht.Lh,ht.Jm,ht.com,⟨by simp;omega,ht.Cf.2.1,by simp;omega,ht.Cf.2.2.2⟩⟩
  simp only[gq,Bool.or_eq_true,decide_eq_true_eq]at hb
  have hl:((s.setSt e.at_ (e.th,s.jD e.at_)).aI e.th { t with at_:=3,locked:=e.at_,owned:=qf t.owned e.at_.toNat }).aX=s.aX.set e.at_.toNat (e.th,s.jD e.at_):=rfl
  rw[hl,List.length_set]
  by_cases hab:e.at_.toNat=b
  ·subst hab;exact⟨hai,by rw[aQ _ _ _ _ hai];exact bY⟩
  ·rw[getD_set_ne _ _ _ _ _ hab]
   rcases hb with hb | hb
   ·exact ht.own b hb
   ·exact absurd hb hab
 rw[if_neg k4]at h
 by_cases k5:e.kind=5
 ·rw[if_pos k5]at h
  unfold kR at h;split at h
  case isFalse=>cases h
  rename_i hc
  cases h
  refine hw.mk' (th:=th) hlt (by simp[Sh.aI,htn];rfl) rfl ⟨by simp[Sh.aI];omega,by simp[Sh.aI];omega⟩ (Or.inl rfl) ?_
  have ho:=ht.busy (Or.inl hc.1)
  refine ht.same rfl (by simp[Sh.aI];omega) rfl (by simp) ht.st ht.m1 ht.m3 (by simp only;split;exact ht.m4;exact ht.m1) (by simp) (fun _=>ho) (Or.inl rfl) (Or.inr (by simp[Sh.aI];omega)) ht.com ht.Cf
 rw[if_neg k5]at h
 by_cases k6:e.kind=6
 ·rw[if_pos k6]at h
  unfold ji at h;split at h
  case isFalse=>cases h
  rename_i hc
  cases h
  refine hw.mk' (th:=th) hlt (by simp[Sh.aI,htn];rfl) rfl (iL hw) (Or.inl rfl) ?_
  have ho:=ht.busy (Or.inr (Or.inl hc.1))
  exact ht.same rfl (by simp[Sh.aI]) rfl ht.at0 ht.st ht.m1 ht.m3 (qy ht.m4) ht.idle ht.busy (Or.inl rfl) (Or.inl rfl) ht.com ht.Cf
 rw[if_neg k6]at h
 by_cases k7:e.kind=7
 ·rw[if_pos k7]at h
  unfold eu at h;split at h
  ·rename_i hc
   cases h
   refine hw.mk' (th:=th) hlt (by simp[Sh.aI,htn];rfl) rfl (iL hw) (Or.inl rfl) ?_
   have ho:t.owned=0:=ht.idle (Or.inr (Or.inl hc.2))
   exact ht.same rfl (by simp[Sh.aI]) rfl (by simp) ht.st ht.m1 ht.m3 ht.m4 (fun _=>ho) (by simp) (Or.inl rfl) (Or.inl rfl) (by have:=ht.com;simp;omega) ht.Cf
  ·split at h
   case isFalse=>cases h
   rename_i hc
   cases h
   refine hw.mk' (th:=th) hlt (by simp[Sh.aI,htn];rfl) rfl (iL hw) (Or.inl rfl) ?_
   have ho:=ht.busy (Or.inr (Or.inl hc.2.1))
   exact ht.same rfl (by simp[Sh.aI]) rfl (by simp) ht.st ht.m1 ht.m3 ht.m4 (by simp) (fun _=>ho) (Or.inl rfl) (Or.inl rfl) ht.com ht.Cf
 rw[if_neg k7]at h
 by_cases k8:e.kind=8
 ·rw[if_pos k8]at h
  unfold jb at h;split at h
  case isFalse=>cases h
  rename_i hc
  cases h
  refine hw.mk' (th:=th) hlt (by simp[Sh.aI,htn];rfl) rfl (iL hw) (Or.inl rfl) ?_
  have hmod:=Cb (a:=e.at_) (n:=s.n) (by rw[hsn];have:=hw.size;omega)
  exact ht.same rfl (by simp[Sh.aI]) rfl ht.at0 ht.st ht.m1 (uI ht.m3 (by have:=hw.size;rw[hsn]at*;omega)) ht.m4 ht.idle ht.busy (Or.inl rfl) (Or.inl rfl) ht.com ⟨ht.Cf.1,by simp;omega,ht.Cf.2.2.1,by simp;omega⟩
 rw[if_neg k8]at h
 by_cases k9:e.kind=9
 ·rw[if_pos k9]at h
  unfold iT at h;split at h
  case isFalse=>cases h
  rename_i hc
  have hp:=nH (e:=e) (V:=s.vars) (S:=s.n) (by omega) (by omega) hS.1
  have hai:e.at_.toNat < s.aX.length:=by omega
  have hbit:t.owned.testBit e.at_.toNat=true:=by
   have:e.at_.toNat=bH t.owned:=by omega
   rw[this];exact iw (by omega)
  have hown:=ht.own _ hbit
  have hcase:∀ t',(t'={ t with at_:=0,owned:=fV t.owned e.at_.toNat,aP:=t.aP+1 }∧fV t.owned e.at_.toNat=0)∨(t'={ t with at_:=6,owned:=fV t.owned e.at_.toNat }∧fV t.owned e.at_.toNat≠0)→Wf ((s.setSt e.at_ (-1,t.wv)).aI e.th t'):=by
   intro t' ht'
   refine hw.mk' (th:=th) (t':=t') hlt (by simp[Sh.aI,Sh.setSt,htn]) rfl (iL hw) (Or.inr ⟨e.at_.toNat,(-1,t.wv),rfl,hai,⟨by simp,by simp;omega⟩,by have:=ht.Jm;have:=hw.clk;simp;omega,Or.inr hown.2⟩) ?_
   have hn':((s.setSt e.at_ (-1,t.wv)).aI e.th t').n=s.n:=by simp[Sh.n,Sh.aI,Sh.setSt]
   have hst:((s.setSt e.at_ (-1,t.wv)).aI e.th t').aX=s.aX.set e.at_.toNat (-1,t.wv):=rfl
   have hov:∀ b,(fV t.owned e.at_.toNat).testBit b=true→b < s.aX.length∧((s.aX.set e.at_.toNat (-1,t.wv)).getD b (-1,0)).1=(th:Int):=by
    intro b hb
    rw[iE,Bool.and_eq_true]at hb
    have hne:e.at_.toNat≠b:=by simpa using hb.2
    rw[getD_set_ne _ _ _ _ _ hne]
    exact ht.own b hb.1
   rcases ht' with⟨rfl,hz⟩ | ⟨rfl,hz⟩
   ·exact⟨by simp,by rw[hn'];exact ht.st,by rw[hst,List.length_set];exact hov,ht.m1,qy ht.m2,ht.m3,ht.m4,fun _=>hz,by simp,ht.Lh,ht.Jm,by have:=ht.com;simp;omega,ht.Cf⟩
   ·exact⟨by simp,by rw[hn'];exact ht.st,by rw[hst,List.length_set];exact hov,ht.m1,qy ht.m2,ht.m3,ht.m4,by simp,fun _=>hz,ht.Lh,ht.Jm,ht.com,ht.Cf⟩
  cases h
  split
  ·rename_i hz;exact hcase _ (Or.inl ⟨rfl,hz⟩)
  ·rename_i hz;exact hcase _ (Or.inr ⟨rfl,hz⟩)
 rw[if_neg k9]at h
 by_cases k10:e.kind=10
 ·rw[if_pos k10]at h
  unfold jk at h;split at h
  case isFalse=>cases h
  rename_i hc
  cases h
  refine hw.mk' (th:=th) hlt (by simp[Sh.aI,htn];rfl) rfl (iL hw) (Or.inl rfl) ?_
  refine ht.same rfl (by simp[Sh.aI]) rfl (by simp only;split <;> omega) ht.st ht.m1 ht.m3 ht.m4 (fun hx=>?_) (fun hx=>?_) (Or.inl rfl) (Or.inl rfl) ht.com ht.Cf
  ·simp only at hx;split at hx
   ·assumption
   ·omega
  ·simp only at hx;split at hx
   ·omega
   ·assumption
 rw[if_neg k10]at h
 by_cases k11:e.kind=11
 ·rw[if_pos k11]at h
  unfold jX at h;split at h
  case isFalse=>cases h
  rename_i hc
  have hp:=nH (e:=e) (V:=s.vars) (S:=s.n) (by omega) (by omega) hS.1
  have hai:e.at_.toNat < s.aX.length:=by omega
  have hst':=VD _ hai
  have hbit:t.owned.testBit e.at_.toNat=true:=by
   have:e.at_.toNat=bH t.owned:=by omega
   rw[this];exact iw (by omega)
  have hown:=ht.own _ hbit
  cases h
  refine hw.mk' (th:=th) hlt (by simp[Sh.aI,Sh.setSt,htn];rfl) rfl (iL hw) (Or.inr ⟨e.at_.toNat,(-1,s.jD e.at_),rfl,hai,⟨by simp,by simp;omega⟩,by simp only;rw[Dz];exact hst'.2,Or.inr hown.2⟩) ?_
  have hov:∀ b,(fV t.owned e.at_.toNat).testBit b=true→b < (s.aX.set e.at_.toNat (-1,s.jD e.at_)).length∧((s.aX.set e.at_.toNat (-1,s.jD e.at_)).getD b (-1,0)).1=(th:Int):=by
   intro b hb
   rw[iE,Bool.and_eq_true]at hb
   have hne:e.at_.toNat≠b:=by simpa using hb.2
   rw[getD_set_ne _ _ _ _ _ hne,List.length_set]
   exact ht.own b hb.1
  refine⟨by(simp only;split;(split <;> omega);omega),?_,hov,ht.m1,qy ht.m2,ht.m3,ht.m4,fun hx=>?_,fun hx=>?_,ht.Lh,ht.Jm,ht.com,ht.Cf⟩
  ·have hn':((s.setSt e.at_ (-1,s.jD e.at_)).aI e.th { t with at_:=if fV t.owned e.at_.toNat=0 then(if t.full then 9 else 0)else 7,owned:=fV t.owned e.at_.toNat }).n=s.n:=by simp[Sh.n,Sh.aI,Sh.setSt]
   rw[hn'];exact ht.st
  ·simp only at hx;split at hx
   ·assumption
   ·omega
  ·simp only at hx;split at hx
   ·split at hx <;> omega
   ·assumption
 rw[if_neg k11]at h
 by_cases k12:e.kind=12
 ·rw[if_pos k12]at h
  unfold oz at h;split at h
  case isFalse=>cases h
  rename_i hc
  cases h
  refine hw.mk' (th:=th) hlt (by simp[Sh.aI,htn];rfl) rfl (iL hw) (Or.inl rfl) ?_
  have ho:t.owned=0:=ht.idle (Or.inr (Or.inl hc))
  exact ht.same rfl (by simp[Sh.aI]) rfl (by simp) ht.st ht.m1 ht.m3 ht.m4 (fun _=>ho) (by simp) (Or.inl rfl) (Or.inl rfl) ht.com ht.Cf
 rw[if_neg k12]at h
 unfold ny at h;split at h
 case isFalse=>cases h
 rename_i hc
 cases h
 refine hw.mk' (th:=th) hlt (by simp[Sh.aI,htn];rfl) rfl (iL hw) (Or.inl rfl) ?_
 have ho:t.owned=0:=ht.idle (Or.inr (Or.inr (Or.inr (Or.inl hc.1))))
 exact ht.same rfl (by simp[Sh.aI]) rfl (by simp) ht.st ht.m1 ht.m3 ht.m4 (fun _=>ho) (by simp) (Or.inl rfl) (Or.inl rfl) ht.com ht.Cf
theorem Iw:∀ (l:List Ev) {s s':Sh},Wf s→jc s l=some s'→Wf s'
 | [],s,s',hw,h=>by unfold jc at h;cases h;exact hw
 | e :: l,s,s',hw,h=>by
  unfold jc at h
  cases hs:stepS s e with
  | none=>rw[hs]at h;cases h
  | some r=>rw[hs]at h;exact Iw l (qR hw hs) h
end Go.Proofs.YtcddlnmcjmhbcaaDoor
-- short
