/-
  Joined texts: ShP RcD RcP RcQ.
-/
import Derived.Test.YtcddlnmcjmhbcaaDoorRgF
namespace Go.Proofs.YtcddlnmcjmhbcaaDoor
set_option linter.unusedVariables false
def vH (s:Sh) (i:Nat):Int:=(s.aX.getD i (-1,0)).1
def Pe (s:Sh) (i:Nat):Int:=(s.aX.getD i (-1,0)).2
theorem pI {s s':Sh} {e:Ev} (hw:Wf s) (h:stepS s e=some s'):∃ th:Nat,e.th=(th:Int)∧e.th.toNat=th∧th < s.aN.length∧jH e s.aN.length s.vars s.n=true∧(1≤e.kind∧e.kind≤13)∧
  (0≤e.at_∧e.at_ < s.vars∧s.vars≤32)∧(e.kind≠3→e.kind≠8→e.at_ < s.n∧e.at_.toNat < s.aX.length)∧(0≤e.at_ % s.n∧e.at_ % s.n < s.n)∧(0≤e.v∧e.v≤1099511627776)∧nZ s (s.aN.getD th Th.zero) e=some s':=by
 unfold stepS at h
 split at h
 case isFalse=>cases h
 rename_i hm
 obtain⟨hk,hth,htx,hv,hat,hS⟩:=oI hm
 obtain⟨th,bY⟩:=Int.eq_ofNat_of_zero_le hth.1
 have hlt:th < s.aN.length:=by omega
 have htn:e.th.toNat=th:=by omega
 have hT:s.th e.th=s.aN.getD th Th.zero:=by unfold Sh.th;rw[htn]
 rw[hT]at h
 have hpv:=yw (e:=e) hS.1 hS.2.1
 refine⟨th,bY,htn,hlt,hm,hk,⟨hat.1,by omega,by omega⟩,fun h3 h8=>?_,Cb hS.1,hv,h⟩
 have hp:=nH (e:=e) (V:=s.vars) (S:=s.n) h3 h8 hS.1
 have:s.n=s.aX.length:=rfl
 omega
theorem Gh {s s':Sh} {e:Ev} (hw:Wf s) (h:stepS s e=some s'):
  (e.kind=4→(e.at_.toNat < 32∧vH s e.at_.toNat=-1∧∀ i,vH s' i=if i=e.at_.toNat then e.th else vH s i))∧
  (e.kind=9∨e.kind=11→(e.at_.toNat < 32∧vH s e.at_.toNat=e.th∧∀ i,vH s' i=if i=e.at_.toNat then -1 else vH s i))∧
  (e.kind=2→(e.at_.toNat < 32∧vH s e.at_.toNat=-1))∧
  (e.kind=3→((e.at_ % s.n).toNat < 32∧vH s (e.at_ % s.n).toNat=-1))∧
  (e.kind=8→((e.at_ % s.n).toNat < 32∧vH s (e.at_ % s.n).toNat=e.th))∧
  (e.kind≠4→e.kind≠9→e.kind≠11→∀ i,vH s' i=vH s i):=by
 obtain⟨th,bY,htn,hlt,hm,hk,hat,o9,hmod,hv,hd⟩:=pI hw h
 have ht:=hw.th th hlt
 generalize s.aN.getD th Th.zero=t at hd ht
 have hsz:=hw.size
 have hsn:s.n=s.aX.length:=rfl
 have same:∀ (t':Th) (i:Nat),vH (s.aI e.th t') i=vH s i:=fun _ _=>rfl
 unfold nZ at hd
 by_cases k1:e.kind=1
 ·rw[if_pos k1]at hd
  unfold iU at hd;split at hd
  case isFalse=>cases hd
  cases hd
  exact⟨by omega,by omega,by omega,by omega,by omega,fun _ _ _ _=>rfl⟩
 rw[if_neg k1]at hd
 by_cases k2:e.kind=2
 ·rw[if_pos k2]at hd
  unfold lJ at hd;split at hd
  case isFalse=>cases hd
  rename_i hc
  cases hd
  obtain⟨h1,h2⟩:=o9 (by omega) (by omega)
  refine⟨by omega,by omega,fun _=>⟨by omega,hc.2.1⟩,by omega,by omega,fun _ _ _ i=>?_⟩
  show((s.aX.set e.at_.toNat (-1,e.v)).getD i (-1,0)).1=_
  by_cases hi:e.at_.toNat=i
  ·subst hi;rw[aQ _ _ _ _ h2];exact hc.2.1.symm
  ·rw[getD_set_ne _ _ _ _ _ hi];rfl
 rw[if_neg k2]at hd
 by_cases k3:e.kind=3
 ·rw[if_pos k3]at hd
  unfold lK at hd;split at hd
  case isFalse=>cases hd
  rename_i hc
  cases hd
  exact⟨by omega,by omega,by omega,fun _=>⟨by omega,by have:=hc.2.2.1;rw[←hc.2.1]at this;exact this⟩,by omega,fun _ _ _ _=>rfl⟩
 rw[if_neg k3]at hd
 by_cases k4:e.kind=4
 ·rw[if_pos k4]at hd
  unfold mF at hd;split at hd
  case isFalse=>cases hd
  rename_i hc
  cases hd
  obtain⟨h1,h2⟩:=o9 (by omega) (by omega)
  refine⟨fun _=>⟨by omega,hc.2.2,fun i=>?_⟩,by omega,by omega,by omega,by omega,by omega⟩
  show((s.aX.set e.at_.toNat (e.th,s.jD e.at_)).getD i (-1,0)).1=_
  by_cases hi:e.at_.toNat=i
  ·subst hi;rw[aQ _ _ _ _ h2,if_pos rfl]
  ·rw[getD_set_ne _ _ _ _ _ hi,if_neg (Ne.symm hi)];rfl
 rw[if_neg k4]at hd
 by_cases k5:e.kind=5
 ·rw[if_pos k5]at hd
  unfold kR at hd;split at hd
  case isFalse=>cases hd
  cases hd
  exact⟨by omega,by omega,by omega,by omega,by omega,fun _ _ _ _=>rfl⟩
 rw[if_neg k5]at hd
 by_cases k6:e.kind=6
 ·rw[if_pos k6]at hd
  unfold ji at hd;split at hd
  case isFalse=>cases hd
  cases hd
  exact⟨by omega,by omega,by omega,by omega,by omega,fun _ _ _ _=>rfl⟩
 rw[if_neg k6]at hd
 by_cases k7:e.kind=7
 ·rw[if_pos k7]at hd
  unfold eu at hd;split at hd
  ·cases hd
   exact⟨by omega,by omega,by omega,by omega,by omega,fun _ _ _ _=>rfl⟩
  split at hd
  ·cases hd
   exact⟨by omega,by omega,by omega,by omega,by omega,fun _ _ _ _=>rfl⟩
  cases hd
 rw[if_neg k7]at hd
 by_cases k8:e.kind=8
 ·rw[if_pos k8]at hd
  unfold jb at hd;split at hd
  case isFalse=>cases hd
  rename_i hc
  cases hd
  exact⟨by omega,by omega,by omega,by omega,fun _=>⟨by omega,by rw[bY];exact(ht.own _ hc.2.2).2⟩,fun _ _ _ _=>rfl⟩
 rw[if_neg k8]at hd
 by_cases k9:e.kind=9
 ·rw[if_pos k9]at hd
  unfold iT at hd;split at hd
  case isFalse=>cases hd
  rename_i hc
  cases hd
  obtain⟨h1,h2⟩:=o9 (by omega) (by omega)
  have hbit:t.owned.testBit e.at_.toNat=true:=by
   have:e.at_.toNat=bH t.owned:=by omega
   rw[this];exact iw (by omega)
  refine⟨by omega,fun _=>⟨by omega,by rw[bY];exact(ht.own _ hbit).2,fun i=>?_⟩,by omega,by omega,by omega,by omega⟩
  show((s.aX.set e.at_.toNat (-1,t.wv)).getD i (-1,0)).1=_
  by_cases hi:e.at_.toNat=i
  ·subst hi;rw[aQ _ _ _ _ h2,if_pos rfl]
  ·rw[getD_set_ne _ _ _ _ _ hi,if_neg (Ne.symm hi)];rfl
 rw[if_neg k9]at hd
 by_cases k10:e.kind=10
 ·rw[if_pos k10]at hd
  unfold jk at hd;split at hd
  case isFalse=>cases hd
  cases hd
  exact⟨by omega,by omega,by omega,by omega,by omega,fun _ _ _ _=>rfl⟩
 rw[if_neg k10]at hd
 by_cases k11:e.kind=11
 ·rw[if_pos k11]at hd
  unfold jX at hd;split at hd
  case isFalse=>cases hd
  rename_i hc
  cases hd
  obtain⟨h1,h2⟩:=o9 (by omega) (by omega)
  have hbit:t.owned.testBit e.at_.toNat=true:=by
   have:e.at_.toNat=bH t.owned:=by omega
   rw[this];exact iw (by omega)
  refine⟨by omega,fun _=>⟨by omega,by rw[bY];exact(ht.own _ hbit).2,fun i=>?_⟩,by omega,by omega,by omega,by omega⟩
  show((s.aX.set e.at_.toNat (-1,s.jD e.at_)).getD i (-1,0)).1=_
  by_cases hi:e.at_.toNat=i
  ·subst hi;rw[aQ _ _ _ _ h2,if_pos rfl]
  ·rw[getD_set_ne _ _ _ _ _ hi,if_neg (Ne.symm hi)];rfl
 rw[if_neg k11]at hd
 by_cases k12:e.kind=12
 ·rw[if_pos k12]at hd
  unfold oz at hd;split at hd
  case isFalse=>cases hd
  cases hd
  exact⟨by omega,by omega,by omega,by omega,by omega,fun _ _ _ _=>rfl⟩
 rw[if_neg k12]at hd
 unfold ny at hd;split at hd
 case isFalse=>cases hd
 cases hd
 exact⟨by omega,by omega,by omega,by omega,by omega,fun _ _ _ _=>rfl⟩
end Go.Proofs.YtcddlnmcjmhbcaaDoor
namespace Go.Proofs.YtcddlnmcjmhbcaaDoor
set_option linter.unusedVariables false
set_option linter.unusedSimpArgs false
def dR:List Ev→Int→Int
 | [],_=>-1
 | e :: r,s=>if e.at_=s then(if e.kind=4 then e.th else if e.kind=9∨e.kind=11 then -1 else dR r s)else dR r s
def jZ:List Ev→Int→Int
 | [],_=>0
 | e :: r,th=>if e.kind=5∧e.th=th then e.v else jZ r th
def fM:List Ev→Int→Int
 | [],_=>0
 | e :: r,s=>if e.at_=s∧e.kind=2 then e.v else if e.at_=s∧e.kind=9 then jZ r e.th else fM r s
def lZ:List Ev→Int
 | []=>0
 | e :: r=>if e.kind=1∨e.kind=5 then e.v else lZ r
structure AtR where
 L:List Ev
 rv:Int
 wv:Int
 read:List Int
 locked:List Int
 freed:List Int
 checked:Nat
 stored:List Int
 why:Int
 last:Int
def AtR.zero:AtR:=⟨[],0,0,[],[],[],0,[],0,0⟩
def fP:List Int→Int→List Int
 | [],n=>[n]
 | x :: l,n=>if x < n then x :: fP l n else if x=n then x :: l else n :: x :: l
def gu (S:Int) (b:AtR) (e:Ev):AtR:=
 {L:=b.L++[e],rv:=b.rv,wv:=if e.kind=5 then e.v else b.wv,read:=if e.kind=3 then fP b.read (e.at_ % S)else b.read,locked:=if e.kind=4 then b.locked++[e.at_]else b.locked,
  freed:=if e.kind=9∨e.kind=11 then b.freed++[e.at_]else b.freed,checked:=if e.kind=6 then b.checked+1 else b.checked,stored:=if e.kind=8 then b.stored++[e.at_]else b.stored,why:=if e.kind=10 then e.why else b.why,last:=e.kind }
def kN (a:AtR) (e:Ev):AtR:=if e.kind=1 then⟨[],e.v,0,[],[],[],0,[],0,0⟩else a
def eP (S:Int) (a:AtR) (e:Ev):AtR:=gu S (kN a e) e
def bC (S th:Int):List Ev→AtR
 | []=>AtR.zero
 | e :: r=>if e.th=th then eP S (bC S th r) e else bC S th r
def dQ (a:AtR):Bool:=
 if a.last=0∨a.last=13 then true else if a.last=7∨a.last=10 then decide (a.locked.length=0)else if a.last=9∨a.last=11 then decide (a.freed.length=a.locked.length)else false
def og (S th:Int):List Ev→Int
 | []=>0
 | e :: r=>og S th r+if e.th=th∧(e.kind=7∨e.kind=9)∧dQ (bC S th (e :: r))=true then 1 else 0
def leftA (a:AtR):List Int:=if a.wv=a.rv+1 then[]else a.read.drop a.checked
def iy (l:List Int):Int:=l.getLast?.getD (-1)
def evZ:Ev:=⟨0,0,0,0,0,0,0⟩
def lookA (a:AtR):Ev:=a.L.getLast?.getD evZ
def oh (S:Int):List Int→List Int→List Int
 | acc,[]=>acc
 | acc,x :: l=>oh S (fP acc (x % S)) l
def qp (r:List Ev) (rv:Int) (s:Int):Bool:=decide (dR r s < 0)&&decide (rv < fM r s)
def jG (a:AtR):Bool:=decide (a.last=1∨a.last=3)
def oN (a:AtR):Bool:=decide (a.last=5∨a.last=6)
def o8 (r:List Ev) (e:Ev):Bool:=decide (0≤dR r e.at_)&&!decide (dR r e.at_=e.th)
def headB (l:List Int) (x:Int):Bool:=decide (l.head? =some x)
def eH (r:List Ev) (e:Ev) (a:AtR):Bool:=
 if e.why=1 then jG a&&o8 r e
 else if e.why=2 then jG a&&decide (dR r e.at_ < 0)&&decide (a.rv < fM r e.at_)
 else if e.why=3 then decide (a.last=2)&&decide ((lookA a).at_=e.at_)&&(decide (0≤dR r e.at_)||!decide (fM r e.at_=(lookA a).v))
 else if e.why=4 then(jG a||decide (a.last=4))&&decide (iy a.locked < e.at_)&&o8 r e
 else if e.why=5 then oN a&&headB (leftA a) e.at_&&(o8 r e||decide (a.rv < fM r e.at_))
 else decide (a.last=4)
def fQ (S:Int) (r:List Ev) (e:Ev) (a:AtR):Bool:=
 if e.kind=2 then jG a&&decide (dR r e.at_ < 0)&&decide (fM r e.at_≤e.v)&&decide (e.v≤a.rv)
 else if e.kind=3 then decide (a.last=2)&&decide ((lookA a).at_=e.at_ % S)&&decide (dR r (e.at_ % S) < 0)&&decide (fM r (e.at_ % S)=(lookA a).v)
 else if e.kind=4 then(jG a||decide (a.last=4))&&decide (iy a.locked < e.at_)&&decide (dR r e.at_ < 0)
 else if e.kind=5 then decide (a.last=4)&&decide (lZ r < e.v)
 else if e.kind=6 then oN a&&headB (leftA a) e.at_&&!o8 r e&&decide (fM r e.at_≤a.rv)
 else if e.kind=7 then(if e.v=0 then jG a else oN a&&decide (leftA a=[])&&decide (e.v=a.wv))
 else if e.kind=8 then decide (a.last=7∨a.last=8)&&decide (iy a.stored < e.at_)&&decide (dR r (e.at_ % S)=e.th)
 else if e.kind=9 then(decide (a.last=8)&&decide ((oh S [] a.stored).length=a.locked.length)||decide (a.last=9))&&headB (a.locked.drop a.freed.length) e.at_
 else if e.kind=11 then decide (a.last=10∨a.last=11)&&headB (a.locked.drop a.freed.length) e.at_
 else if e.kind=12 then jG a
 else if e.kind=13 then decide (a.last=12)&&a.read.any (qp r a.rv)
 else eH r e a
def yI (S:Int) (r:List Ev) (e:Ev) (a:AtR):Bool:=
 if e.kind=1 then dQ a&&!decide (a.why=6)&&decide (e.tx=og S e.th r)&&decide (lZ r≤e.v)
 else if dQ a=true then false else fQ S r e a
def Ce (T V S:Int) (r:List Ev) (e:Ev):Bool:=jH e T V S&&yI S r e (bC S e.th r)
structure iC (m:Nat) (l:List Int):Prop where
 lt:m < 4294967296
 bit:∀ b:Nat,m.testBit b=true↔(b:Int)∈l
 up:l.Pairwise (· < ·)
 Q4:∀ x∈l,0≤x∧x < 32
theorem iC.nil:iC 0 []:=⟨by omega,by simp,.nil,by simp⟩
theorem rH (l:List Int) (n y:Int):y∈fP l n↔y=n∨y∈l:=by
 induction l with
 | nil=>simp[fP]
 | cons x l ih=>
  unfold fP
  split
  ·simp only[List.mem_cons,ih];constructor <;> (intro h;rcases h with h | h | h <;> simp[h])
  ·split
   ·rename_i h;subst h;simp only[List.mem_cons]
    constructor
    ·intro h;exact Or.inr h
    ·rintro(h | h)
     ·exact Or.inl h
     ·exact h
   ·simp only[List.mem_cons]
theorem IE {l:List Int} (n:Int) (h:l.Pairwise (· < ·)):(fP l n).Pairwise (· < ·):=by
 induction l with
 | nil=>simp[fP]
 | cons x l ih=>
  rw[List.pairwise_cons]at h
  unfold fP
  split
  ·rename_i hx
   rw[List.pairwise_cons]
   refine⟨fun y hy=>?_,ih h.2⟩
   rcases(rH l n y).1 hy with rfl | hy
   ·exact hx
   ·exact h.1 y hy
  ·split
   ·rw[List.pairwise_cons];exact h
   ·rw[List.pairwise_cons,List.pairwise_cons]
    refine⟨fun y hy=>?_,h⟩
    rcases List.mem_cons.1 hy with rfl | hy
    ·omega
    ·have:=h.1 y hy;omega
theorem iC.put {m:Nat} {l:List Int} (h:iC m l) {s:Int} (hs:0≤s∧s < 32):iC (qf m s.toNat) (fP l s):=by
 refine⟨uI h.lt (by omega),fun b=>?_,IE s h.up,fun x hx=>?_⟩
 ·rw[gq,rH,Bool.or_eq_true,decide_eq_true_eq,h.bit b]
  constructor
  ·rintro(h1 | h1)
   ·exact Or.inr h1
   ·exact Or.inl (by omega)
  ·rintro(h1 | h1)
   ·exact Or.inr (by omega)
   ·exact Or.inl h1
 ·rcases(rH l s x).1 hx with rfl | hx
  ·exact hs
  ·exact h.Q4 x hx
theorem yM (l:List Int) (x:Int):iy (l++[x])=x:=by simp[iy]
theorem MR:∀ {l:List Int},l.Pairwise (· < ·)→∀ x∈l,x≤iy l:=by
 intro l h x hx
 rcases List.eq_nil_or_concat l with rfl | ⟨k,y,rfl⟩
 ·cases hx
 ·rw[List.concat_eq_append]at h hx⊢
  rw[yM]
  rcases List.mem_append.1 hx with hx | hx
  ·have:=(List.pairwise_append.1 h).2.2 x hx y (List.mem_singleton.2 rfl);omega
  ·rw[List.mem_singleton.1 hx];omega
theorem iC.snoc {m:Nat} {l:List Int} (h:iC m l) {s:Int} (hs:0≤s∧s < 32) (hl:iy l < s):iC (qf m s.toNat) (l++[s]):=by
 refine⟨uI h.lt (by omega),fun b=>?_,?_,fun x hx=>?_⟩
 ·rw[gq,List.mem_append,List.mem_singleton,Bool.or_eq_true,decide_eq_true_eq,h.bit b]
  constructor
  ·rintro(h1 | h1)
   ·exact Or.inl h1
   ·exact Or.inr (by omega)
  ·rintro(h1 | h1)
   ·exact Or.inl h1
   ·exact Or.inr (by omega)
 ·rw[List.pairwise_append]
  refine⟨h.up,by simp,fun x hx y hy=>?_⟩
  rw[List.mem_singleton.1 hy]
  have:=MR h.up x hx;omega
 ·rcases List.mem_append.1 hx with hx | hx
  ·exact h.Q4 x hx
  ·rw[List.mem_singleton.1 hx];exact hs
theorem iC.mW {m:Nat} {l:List Int} (h:iC m l):m=0↔l=[]:=by
 constructor
 ·intro h0
  cases l with
  | nil=>rfl
  | cons x l=>
   have h1:=h.Q4 x (List.mem_cons_self ..)
   have h2:=(h.bit x.toNat).2 (by rw[Int.toNat_of_nonneg h1.1];exact List.mem_cons_self ..)
   rw[h0,Nat.zero_testBit]at h2;cases h2
 ·intro h0
  refine qF h.lt fun i hi=>?_
  cases hb:m.testBit i with
  | false=>rfl
  | true=>rw[h0]at h;have:=(h.bit i).1 hb;cases this
theorem iC.head {m:Nat} {l:List Int} (h:iC m l) {x:Int} (hx:0≤x∧x < 32):x=bH m↔l.head? =some x:=by
 cases l with
 | nil=>
  have h0:=h.mW.2 rfl
  subst h0
  have:bH 0=32:=by decide+kernel
  rw[this];simp;omega
 | cons y l=>
  have h1:=h.Q4 y (List.mem_cons_self ..)
  have h2:=(h.bit y.toNat).2 (by rw[Int.toNat_of_nonneg h1.1];exact List.mem_cons_self ..)
  have h3:=yK h2 (by omega)
  have h4:=(h.bit _).1 (iw (m:=m) (by omega))
  have h5:y≤(bH m:Int):=by
   rcases List.mem_cons.1 h4 with h4 | h4
   ·omega
   ·have:=(List.pairwise_cons.1 h.up).1 _ h4;omega
  have:(bH m:Int)=y:=by omega
  rw[this,List.head?_cons]
  constructor
  ·intro h0;rw[h0]
  ·intro h0;exact(Option.some.inj h0).symm
theorem iC.tail {m:Nat} {x:Int} {l:List Int} (h:iC m (x :: l)):iC (fV m x.toNat) l:=by
 have hu:=List.pairwise_cons.1 h.up
 have hx:=h.Q4 x (List.mem_cons_self ..)
 refine⟨qy h.lt,fun b=>?_,hu.2,fun y hy=>h.Q4 y (List.mem_cons_of_mem _ hy)⟩
 rw[iE,Bool.and_eq_true,h.bit b,List.mem_cons,Bool.not_eq_true',decide_eq_false_iff_not]
 constructor
 ·rintro⟨h1 | h1,h2⟩
  ·omega
  ·exact h1
 ·intro h1
  exact⟨Or.inr h1,fun h2=>by have:=hu.1 _ h1;omega⟩
theorem head_drop {l:List Int} {k:Nat} {x:Int} (h:(l.drop k).head? =some x):l.drop k=x :: l.drop (k+1):=by
 cases hd:l.drop k with
 | nil=>rw[hd]at h;cases h
 | cons y r=>
  rw[hd]at h
  have:y=x:=Option.some.inj h
  subst this
  rw[←List.drop_drop,hd];rfl
theorem LM:∀ (B A:List Int),A.Pairwise (· < ·)→B.Pairwise (· < ·)→(∀ x∈A,x∈B)→A.length≤B.length∧(A.length=B.length→∀ x∈B,x∈A):=by
 intro B
 induction B with
 | nil=>
  intro A _ _ h
  cases A with
  | nil=>simp
  | cons x A=>have:=h x (List.mem_cons_self ..);cases this
 | cons b B ih=>
  intro A hA hB h
  rw[List.pairwise_cons]at hB
  cases A with
  | nil=>simp
  | cons a A=>
   rw[List.pairwise_cons]at hA
   have hab:b≤a:=by
    rcases List.mem_cons.1 (h a (List.mem_cons_self ..))with h1 | h1
    ·omega
    ·have:=hB.1 a h1;omega
   by_cases he:a=b
   ·subst he
    obtain⟨h1,h2⟩:=ih A hA.2 hB.2 (fun x hx=>by
     rcases List.mem_cons.1 (h x (List.mem_cons_of_mem _ hx))with h3 | h3
     ·have:=hA.1 x hx;omega
     ·exact h3)
    refine⟨by simp;omega,fun h3 x hx=>?_⟩
    rcases List.mem_cons.1 hx with rfl | hx
    ·exact List.mem_cons_self ..
    ·exact List.mem_cons_of_mem _ (h2 (by simpa using h3) x hx)
   ·obtain⟨h1,h2⟩:=ih (a :: A) (List.pairwise_cons.2 hA) hB.2 (fun x hx=>by
     rcases List.mem_cons.1 (h x hx)with h3 | h3
     ·rcases List.mem_cons.1 hx with h4 | h4
      ·omega
      ·have:=hA.1 x h4;omega
     ·exact h3)
    refine⟨by simp only[List.length_cons]at h1⊢;omega,fun h3=>?_⟩
    simp only[List.length_cons]at h1 h3;omega
theorem yc (S:Int):∀ (l acc:List Int) (y:Int),y∈oh S acc l↔y∈acc∨∃ x∈l,x % S=y:=by
 intro l
 induction l with
 | nil=>intro acc y;simp[oh]
 | cons x l ih=>
  intro acc y
  unfold oh
  rw[ih,rH]
  simp only[List.mem_cons,exists_eq_or_imp]
  constructor
  ·rintro((h | h) | h)
   ·exact Or.inr (Or.inl h.symm)
   ·exact Or.inl h
   ·exact Or.inr (Or.inr h)
  ·rintro(h | h | h)
   ·exact Or.inl (Or.inr h)
   ·exact Or.inl (Or.inl h.symm)
   ·exact Or.inr h
theorem O9 (S:Int):∀ (l acc:List Int),acc.Pairwise (· < ·)→(oh S acc l).Pairwise (· < ·):=by
 intro l
 induction l with
 | nil=>intro acc h;exact h
 | cons x l ih=>intro acc h;exact ih _ (IE _ h)
end Go.Proofs.YtcddlnmcjmhbcaaDoor
namespace Go.Proofs.YtcddlnmcjmhbcaaDoor
set_option linter.unusedVariables false
set_option linter.unusedSimpArgs false
structure Ls (S:Int) (t:Th) (a:AtR):Prop where
 over:dQ a=decide (t.at_=0∨t.at_=9)
 XU:t.at_=9→a.why=6
 XV:t.at_=0→a.why≠6
 l1:t.at_=1→a.last=1∨a.last=3
 l2:t.at_=2→a.last=2
 Vx:t.at_=2→(lookA a).at_=t.dJ∧(lookA a).v=t.v
 l3:t.at_=3→a.last=4
 l4:t.at_=4→a.last=5∨a.last=6
 l5:t.at_=5→a.last=7∨a.last=8
 l6:t.at_=6→a.last=9
 l7:t.at_=7→a.last=10∨a.last=11
 l8:t.at_=8→a.last=12
 rv:1≤t.at_→t.at_≤8→a.rv=t.rv
 ne:1≤t.at_→t.at_≤8→a.L≠[]
 ob:1≤t.at_→t.at_≤8→iC t.owned (a.locked.drop a.freed.length)
 rb:1≤t.at_→t.at_≤8→iC t.read a.read
 rn:1≤t.at_→t.at_≤8→∀ x∈a.read,x < S
 cl:1≤t.at_→t.at_≤8→a.checked≤a.read.length
 cb:t.at_=4→iC t.check (leftA a)
 c0:1≤t.at_→t.at_≤3→t.check=0∧a.checked=0
 f0:1≤t.at_→t.at_≤5→a.freed=[]
 lk:1≤t.at_→t.at_≤3→t.locked=iy a.locked
 s0:1≤t.at_→t.at_≤4→a.stored=[]∧t.stored=0∧t.var=-1
 s5:t.at_=5→(∀ b:Nat,t.stored.testBit b=true↔∃ x∈a.stored,x % S=(b:Int))∧t.var=iy a.stored∧(∀ x∈a.stored,x % S∈a.locked)∧(a.last=7→a.stored=[])
 wv:4≤t.at_→t.at_≤6→a.wv=t.wv
 wy:1≤t.at_→t.at_≤8→t.at_≠7→a.why=0
 w7:t.at_=7→(a.why=6↔t.full=true)
theorem Ls.idle {S:Int} {t:Th} {a:AtR} (h:t.at_=0∨t.at_=9) (ho:dQ a=true) (h9:t.at_=9→a.why=6) (h0:t.at_=0→a.why≠6):Ls S t a:=by
 refine⟨by rw[ho,decide_eq_true h],h9,h0,?_,?_,?_,?_,?_,?_,?_,?_,?_,?_,?_,?_,?_,?_,?_,?_,?_,?_,?_,?_,?_,?_,?_,?_⟩
 all_goals (intros;exfalso;omega)
structure vF (s:Sh) (l:List Ev):Prop where
 clk:s.clock=lZ l
 own:∀ i,i < s.aX.length→vH s i=dR l i
 jD:∀ i,i < s.aX.length→Pe s i=fM l i
 ow:∀ i,i < s.aX.length→∀ j:Nat,vH s i=(j:Int)→(s.aN.getD j Th.zero).owned.testBit i=true
 th:∀ i,i < s.aN.length→Ls s.n (s.aN.getD i Th.zero) (bC s.n i l)∧(s.aN.getD i Th.zero).aP=og s.n i l∧(4≤(s.aN.getD i Th.zero).at_→(s.aN.getD i Th.zero).at_≤6→jZ l i=(s.aN.getD i Th.zero).wv)
theorem vF.new (T V S:Int):vF (fF T V S) []:=by
 refine⟨rfl,fun i hi=>?_,fun i hi=>?_,fun i hi j h=>?_,fun i hi=>?_⟩
 ·simp[fF]at hi;simp[vH,fF,List.getD,hi,dR]
 ·simp[fF]at hi;simp[Pe,fF,List.getD,hi,fM]
 ·simp[fF]at hi;simp[vH,fF,List.getD,hi]at h
 ·have e:(fF T V S).aN.getD i Th.zero=Th.zero:=by
   simp only[fF,List.getD_eq_getElem?_getD,List.getElem?_replicate]
   split <;> rfl
  rw[e]
  exact⟨Ls.idle (Or.inl rfl) rfl (by simp[Th.zero]) (by simp[bC,AtR.zero]),rfl,by simp[Th.zero]⟩
def Jk (a:AtR):Prop:=dQ a=false→a.L≠[]∧a.checked≤a.read.length∧(a.last=8∨a.last=9∨a.last=10∨a.last=11→a.freed.length < a.locked.length)
theorem iC.ne {m:Nat} {l:List Int} (h:iC m l):m≠0↔l≠[]:=not_congr h.mW
theorem Qh {s:Sh} {l:List Ev} (hw:Wf s) (hj:vF s l) {i:Nat} (hi:i < s.aN.length):Jk (bC s.n i l):=by
 intro ho
 have ht:=hw.th i hi
 have hr:=(hj.th i hi).1
 generalize s.aN.getD i Th.zero=t at*
 generalize bC s.n i l=a at*
 have ov:=hr.over
 rw[ho]at ov
 have ov:=of_decide_eq_false ov.symm
 have h0:=ht.at0
 refine⟨hr.ne (by omega) (by omega),hr.cl (by omega) (by omega),fun h=>?_⟩
 have h1:=hr.l1;have h2:=hr.l2;have h3:=hr.l3;have h4:=hr.l4;have h8:=hr.l8
 have hb:=(hr.ob (by omega) (by omega)).ne.1 (ht.busy (by omega))
 rcases Nat.lt_or_ge a.freed.length a.locked.length with h5 | h5
 ·exact h5
 ·exact absurd (List.drop_eq_nil_of_le h5) hb
theorem isSome_ite {α:Type} (c:Prop) [Decidable c] (x:α):(if c then some x else none).isSome=decide c:=by split <;> simp_all
set_option maxHeartbeats 4000000 in
theorem SG {s:Sh} {l:List Ev} {e:Ev} (hw:Wf s) (hj:vF s l):(stepS s e).isSome=Ce s.aN.length s.vars s.n l e:=by
 unfold stepS Ce
 by_cases hm:jH e s.aN.length s.vars s.n=true
 case neg=>rw[if_neg hm];simp[hm]
 rw[if_pos hm,hm,Bool.true_and]
 obtain⟨hk,hth,htx,hv,hat,hS⟩:=oI hm
 obtain⟨th,bY⟩:=Int.eq_ofNat_of_zero_le hth.1
 have hlt:th < s.aN.length:=by omega
 have hT:s.th e.th=s.aN.getD th Th.zero:=by unfold Sh.th;rw[show e.th.toNat=th by omega]
 rw[hT,bY]
 have ht:=hw.th th hlt
 obtain⟨hr,hcm,hbv⟩:=hj.th th hlt
 have wH:=hj.clk
 have hsn:s.n=s.aX.length:=rfl
 have hsz:=hw.size
 have OW:∀ q:Int,0≤q→q < s.n→s.own q=dR l q∧s.jD q=fM l q∧-1≤s.own q:=fun q h0 h1=>by
  have h2:q.toNat < s.aX.length:=by omega
  have h3:=hj.own q.toNat h2
  have h4:=hj.jD q.toNat h2
  rw[Int.toNat_of_nonneg h0]at h3 h4
  exact⟨h3,h4,(hw.Xo q.toNat h2).1.1⟩
 have hmod:=Cb (a:=e.at_) hS.1
 have o9:e.kind≠3→e.kind≠8→e.at_ < s.n:=fun h3 h8=>by have:=nH (e:=e) (V:=s.vars) (S:=s.n) h3 h8 hS.1;omega
 have AV:e.at_ < 32:=by have:=yw (e:=e) hS.1 hS.2.1;omega
 generalize hTt:s.aN.getD th Th.zero=t at*
 have hcom:og s.n (↑th) l=t.aP:=hcm.symm
 unfold yI
 rw[bY,hcom]
 generalize bC s.n (↑th) l=a at*
 have h0:=ht.at0
 unfold nZ
 by_cases k1:e.kind=1
 ·rw[if_pos k1,if_pos k1]
  unfold iU
  rw[isSome_ite,hr.over,Bool.eq_iff_iff]
  simp only[Bool.and_eq_true,Bool.not_eq_true',decide_eq_true_eq,decide_eq_false_iff_not,←wH]
  have h9:=hr.XU;have h0':=hr.XV
  constructor
  ·intro h;exact⟨⟨⟨Or.inl h.1,h0' h.1⟩,h.2.1⟩,h.2.2⟩
  ·rintro⟨⟨⟨h1 | h1,h2⟩,h3⟩,h4⟩
   ·exact⟨h1,h3,h4⟩
   ·exact absurd (h9 h1) h2
 rw[if_neg k1,if_neg k1]
 rw[hr.over]
 by_cases ho:t.at_=0∨t.at_=9
 ·rw[decide_eq_true ho,if_pos rfl]
  have n1:¬ t.at_=1:=by omega
  have n2:¬ t.at_=2:=by omega
  have n3:¬ t.at_=3:=by omega
  have n4:¬ t.at_=4:=by omega
  have n5:¬ t.at_=5:=by omega
  have n6:¬ t.at_=6:=by omega
  have n7:¬ t.at_=7:=by omega
  have n8:¬ t.at_=8:=by omega
  unfold lJ lK mF kR ji eu jb iT jk jX oz ny dA
  simp[n1,n2,n3,n4,n5,n6,n7,n8]
  repeat' split
  all_goals rfl
 rw[decide_eq_false ho,if_neg Bool.false_ne_true]
 have l1:=hr.l1;have l2:=hr.l2;have l3:=hr.l3;have l4:=hr.l4;have l5:=hr.l5;have l6:=hr.l6;have l7:=hr.l7;have l8:=hr.l8
 have R1:jG a=decide (t.at_=1):=by unfold jG;exact decide_eq_decide.2 (by omega)
 have R2:decide (a.last=2)=decide (t.at_=2):=decide_eq_decide.2 (by omega)
 have R3:decide (a.last=4)=decide (t.at_=3):=decide_eq_decide.2 (by omega)
 have R4:oN a=decide (t.at_=4):=by unfold oN;exact decide_eq_decide.2 (by omega)
 have R5:decide (a.last=7∨a.last=8)=decide (t.at_=5):=decide_eq_decide.2 (by omega)
 have R6:decide (a.last=9)=decide (t.at_=6):=decide_eq_decide.2 (by omega)
 have R7:decide (a.last=10∨a.last=11)=decide (t.at_=7):=decide_eq_decide.2 (by omega)
 have R8:decide (a.last=12)=decide (t.at_=8):=decide_eq_decide.2 (by omega)
 have qL:=hr.rv (by omega) (by omega)
 have hob:=hr.ob (by omega) (by omega)
 have hoth:e.kind≠3→e.kind≠8→s.yD e.at_ e.th=o8 l e:=fun h3 h8=>by
  obtain⟨h1,h2,h4⟩:=OW e.at_ hat.1 (o9 h3 h8)
  unfold Sh.yD o8
  rw[←h1,Bool.eq_iff_iff]
  simp only[Bool.and_eq_true,Bool.not_eq_true',decide_eq_true_eq,decide_eq_false_iff_not]
  omega
 unfold fQ
 by_cases k2:e.kind=2
 ·rw[if_pos k2,if_pos k2]
  obtain⟨h1,h2,h3⟩:=OW e.at_ hat.1 (o9 (by omega) (by omega))
  unfold lJ
  rw[isSome_ite,R1,←h1,←h2,qL,Bool.eq_iff_iff]
  simp only[Bool.and_eq_true,decide_eq_true_eq]
  omega
 rw[if_neg k2,if_neg k2]
 by_cases k3:e.kind=3
 ·rw[if_pos k3,if_pos k3]
  obtain⟨h1,h2,h3⟩:=OW (e.at_ % s.n) hmod.1 hmod.2
  unfold lK
  rw[isSome_ite,R2,←h1,←h2,Bool.eq_iff_iff]
  simp only[Bool.and_eq_true,decide_eq_true_eq]
  constructor
  ·rintro⟨g1,g2,g3,g4⟩
   obtain⟨q1,q2⟩:=hr.Vx g1
   rw[q1,q2,g2]
   exact⟨⟨⟨g1,rfl⟩,by omega⟩,g4⟩
  ·rintro⟨⟨⟨g1,g2⟩,g3⟩,g4⟩
   obtain⟨q1,q2⟩:=hr.Vx g1
   rw[q1]at g2;rw[q2]at g4
   rw[g2]
   exact⟨g1,rfl,by omega,g4⟩
 rw[if_neg k3,if_neg k3]
 by_cases k4:e.kind=4
 ·rw[if_pos k4,if_pos k4]
  obtain⟨h1,h2,h3⟩:=OW e.at_ hat.1 (o9 (by omega) (by omega))
  have hl:=hr.lk
  unfold mF
  rw[isSome_ite,R1,R3,←h1,Bool.eq_iff_iff]
  simp only[Bool.and_eq_true,Bool.or_eq_true,decide_eq_true_eq]
  constructor
  ·rintro⟨g1,g2,g3⟩;rw[←hl (by omega) (by omega)];exact⟨⟨g1,g2⟩,by omega⟩
  ·rintro⟨⟨g1,g2⟩,g3⟩;rw[←hl (by omega) (by omega)]at g2;exact⟨g1,g2,by omega⟩
 rw[if_neg k4,if_neg k4]
 by_cases k5:e.kind=5
 ·rw[if_pos k5,if_pos k5]
  unfold kR
  rw[isSome_ite,R3,←wH,Bool.eq_iff_iff]
  simp only[Bool.and_eq_true,decide_eq_true_eq]
 rw[if_neg k5,if_neg k5]
 by_cases k6:e.kind=6
 ·rw[if_pos k6,if_pos k6]
  obtain⟨h1,h2,h3⟩:=OW e.at_ hat.1 (o9 (by omega) (by omega))
  unfold ji
  rw[isSome_ite,R4,←h2,qL,hoth (by omega) (by omega),Bool.eq_iff_iff]
  unfold headB
  simp only[Bool.and_eq_true,Bool.not_eq_true',decide_eq_true_eq]
  constructor
  ·rintro⟨g1,g2,g3,g4⟩;exact⟨⟨⟨g1,((hr.cb g1).head ⟨hat.1,AV⟩).1 g2⟩,g3⟩,g4⟩
  ·rintro⟨⟨⟨g1,g2⟩,g3⟩,g4⟩;exact⟨g1,((hr.cb g1).head ⟨hat.1,AV⟩).2 g2,g3,g4⟩
 rw[if_neg k6,if_neg k6]
 by_cases k7:e.kind=7
 ·rw[if_pos k7,if_pos k7]
  unfold eu
  by_cases hz:e.v=0
  ·rw[if_pos hz,R1]
   by_cases h1:t.at_=1
   ·rw[if_pos ⟨hz,h1⟩,decide_eq_true h1];rfl
   ·rw[if_neg (fun h=>h1 h.2),if_neg (fun h=>h.1 hz),decide_eq_false h1];rfl
  ·rw[if_neg hz,if_neg (fun h=>hz h.1),isSome_ite,R4,Bool.eq_iff_iff]
   simp only[Bool.and_eq_true,decide_eq_true_eq]
   have hwv:=hr.wv
   constructor
   ·rintro⟨g1,g2,g3,g4⟩;rw[hwv (by omega) (by omega)];exact⟨⟨g2,(hr.cb g2).mW.1 g3⟩,g4⟩
   ·rintro⟨⟨g1,g2⟩,g3⟩;rw[hwv (by omega) (by omega)]at g3;exact⟨hz,g1,(hr.cb g1).mW.2 g2,g3⟩
 rw[if_neg k7,if_neg k7]
 by_cases k8:e.kind=8
 ·rw[if_pos k8,if_pos k8]
  obtain⟨h1,h2,h3⟩:=OW (e.at_ % s.n) hmod.1 hmod.2
  unfold jb
  rw[isSome_ite,R5,Bool.eq_iff_iff]
  simp only[Bool.and_eq_true,decide_eq_true_eq]
  constructor
  ·rintro⟨g1,g2,g3⟩
   rw[←(hr.s5 g1).2.1]
   have:=(ht.own _ g3).2
   refine⟨⟨g1,g2⟩,?_⟩
   rw[←h1,bY];exact this
  ·rintro⟨⟨g1,g2⟩,g3⟩
   rw[←(hr.s5 g1).2.1]at g2
   refine⟨g1,g2,?_⟩
   rw[←h1,bY]at g3
   have h5:=hj.ow (e.at_ % s.n).toNat (by omega) th (by rw[uN]at g3;exact g3)
   rw[hTt]at h5;exact h5
 rw[if_neg k8,if_neg k8]
 by_cases k9:e.kind=9
 ·rw[if_pos k9,if_pos k9]
  unfold iT headB
  rw[isSome_ite,R6,Bool.eq_iff_iff]
  simp only[Bool.and_eq_true,Bool.or_eq_true,decide_eq_true_eq]
  have hh:=hob.head ⟨hat.1,AV⟩
  rw[hh]
  have h5:t.at_=5→(t.stored=t.owned↔a.last=8∧(oh s.n [] a.stored).length=a.locked.length):=fun g=>by
   obtain⟨q1,q2,q3,q4⟩:=hr.s5 g
   have hf:=hr.f0 (by omega) (by omega)
   rw[hf]at hob
   have CG:iC t.owned a.locked:=by simpa using hob
   have hne:=CG.ne.1 (ht.busy (by omega))
   have hsub:∀ x∈oh s.n [] a.stored,x∈a.locked:=fun x hx=>by
    rcases(yc _ _ _ _).1 hx with hx | ⟨y,hy,rfl⟩
    ·cases hx
    ·exact q3 y hy
   have hup:=O9 s.n a.stored [] .nil
   have hL:=LM a.locked (oh s.n [] a.stored) hup CG.up hsub
   constructor
   ·intro he
    have hall:∀ x∈a.locked,x∈oh s.n [] a.stored:=fun x hx=>by
     have hx0:=CG.Q4 x hx
     have:=(CG.bit x.toNat).2 (by rw[Int.toNat_of_nonneg hx0.1];exact hx)
     rw[←he]at this
     obtain⟨y,hy,hyx⟩:=(q1 _).1 this
     exact(yc _ _ _ _).2 (Or.inr ⟨y,hy,by omega⟩)
    have hL2:=LM (oh s.n [] a.stored) a.locked CG.up hup hall
    refine⟨?_,by omega⟩
    have:=l5 g
    have h7:a.last≠7:=fun h7=>by
     have:=q4 h7
     obtain⟨x,r,hx⟩:=List.exists_cons_of_ne_nil hne
     have h2:=hall x (by rw[hx];exact List.mem_cons_self ..)
     rw[this]at h2;cases h2
    omega
   ·rintro⟨g1,g2⟩
    refine Nat.eq_of_testBit_eq fun i=>?_
    rw[Bool.eq_iff_iff,q1,CG.bit]
    constructor
    ·rintro⟨x,hx,hxi⟩;rw[←hxi];exact q3 x hx
    ·intro hi
     rcases(yc _ _ _ _).1 (hL.2 g2 _ hi)with hx | hx
     ·cases hx
     ·exact hx
  constructor
  ·rintro⟨g1 | ⟨g1,g2⟩,g3⟩
   ·exact⟨Or.inr g1,g3⟩
   ·exact⟨Or.inl ((h5 g1).1 g2),g3⟩
  ·rintro⟨⟨g1,g2⟩ | g1,g3⟩
   ·have g5:t.at_=5:=by omega
    exact⟨Or.inr ⟨g5,(h5 g5).2 ⟨g1,g2⟩⟩,g3⟩
   ·exact⟨Or.inl g1,g3⟩
 rw[if_neg k9,if_neg k9]
 by_cases k10:e.kind=10
 ·rw[if_pos k10,if_neg (by omega),if_neg (by omega),if_neg (by omega)]
  obtain⟨h1,h2,h3⟩:=OW e.at_ hat.1 (o9 (by omega) (by omega))
  unfold jk
  rw[isSome_ite]
  have Nc:1≤e.why∧e.why≤6:=by
   unfold jH at hm
   simp only[Bool.and_eq_true,decide_eq_true_eq]at hm
   exact hm.1.2.2.2.1 k10
  unfold dA eH
  rw[hoth (by omega) (by omega),R1,R2,R3,R4,←h1,←h2,qL]
  rw[Bool.decide_eq_true]
  have hl:=hr.lk
  by_cases w1:e.why=1
  ·rw[if_pos w1,if_pos w1]
  rw[if_neg w1,if_neg w1]
  by_cases w2:e.why=2
  ·rw[if_pos w2,if_pos w2,Bool.eq_iff_iff]
   simp only[Bool.and_eq_true,decide_eq_true_eq]
   omega
  rw[if_neg w2,if_neg w2]
  by_cases w3:e.why=3
  ·rw[if_pos w3,if_pos w3,Bool.eq_iff_iff]
   simp only[Bool.and_eq_true,Bool.or_eq_true,Bool.not_eq_true',decide_eq_true_eq,decide_eq_false_iff_not]
   have hc:t.at_=2→((lookA a).at_=e.at_↔e.at_=t.dJ):=fun g=>by rw[(hr.Vx g).1];exact⟨fun h=>h.symm,fun h=>h.symm⟩
   constructor
   ·rintro⟨g1,g2,g3⟩
    refine⟨⟨g1,(hc g1).2 g2⟩,?_⟩
    rw[(hr.Vx g1).2]
    rw[g2]at h1 h2 h3⊢
    rcases Int.lt_or_le (s.own t.dJ) 0 with h5 | h5
    ·exact Or.inr (fun h6=>g3 ⟨by omega,h6⟩)
    ·exact Or.inl h5
   ·rintro⟨⟨g1,g2⟩,g3⟩
    have g2:=(hc g1).1 g2
    refine⟨g1,g2,fun h=>?_⟩
    rw[(hr.Vx g1).2]at g3
    rw[g2]at g3
    rcases g3 with g3 | g3
    ·omega
    ·exact g3 h.2
  rw[if_neg w3,if_neg w3]
  by_cases w4:e.why=4
  ·rw[if_pos w4,if_pos w4,Bool.eq_iff_iff]
   simp only[Bool.and_eq_true,Bool.or_eq_true,decide_eq_true_eq]
   constructor
   ·rintro⟨⟨g1,g2⟩,g3⟩;rw[←hl (by omega) (by omega)];exact⟨⟨g1,g2⟩,g3⟩
   ·rintro⟨⟨g1,g2⟩,g3⟩;rw[←hl (by omega) (by omega)]at g2;exact⟨⟨g1,g2⟩,g3⟩
  rw[if_neg w4,if_neg w4]
  by_cases w5:e.why=5
  ·rw[if_pos w5,if_pos w5,Bool.eq_iff_iff]
   unfold headB
   simp only[Bool.and_eq_true,Bool.or_eq_true,decide_eq_true_eq]
   constructor
   ·rintro⟨⟨g1,g2⟩,g3⟩;exact⟨⟨g1,((hr.cb g1).head ⟨hat.1,AV⟩).1 g2⟩,g3⟩
   ·rintro⟨⟨g1,g2⟩,g3⟩;exact⟨⟨g1,((hr.cb g1).head ⟨hat.1,AV⟩).2 g2⟩,g3⟩
  rw[if_neg w5,if_neg w5,if_pos (by omega)]
 rw[if_neg k10]
 by_cases k11:e.kind=11
 ·rw[if_pos k11,if_pos k11]
  unfold jX headB
  rw[isSome_ite,R7,Bool.eq_iff_iff]
  simp only[Bool.and_eq_true,decide_eq_true_eq]
  rw[hob.head ⟨hat.1,AV⟩]
 rw[if_neg k11,if_neg k11]
 by_cases k12:e.kind=12
 ·rw[if_pos k12,if_pos k12]
  unfold oz
  rw[isSome_ite,R1]
 rw[if_neg k12,if_neg k12,if_pos (by omega)]
 unfold ny
 rw[isSome_ite,R8,Bool.eq_iff_iff]
 simp only[Bool.and_eq_true,decide_eq_true_eq]
 refine and_congr_right fun g=>?_
 have hb:=hr.rb (by omega) (by omega)
 unfold x9
 rw[List.any_eq_true,List.any_eq_true]
 constructor
 ·rintro⟨i,hi,hx⟩
  rw[Bool.and_eq_true,decide_eq_true_eq,hb.bit]at hx
  rw[List.mem_range]at hi
  obtain⟨q1,q2,q3⟩:=OW i (by omega) (by omega)
  refine⟨i,hx.1,?_⟩
  unfold qp
  rw[Bool.and_eq_true,decide_eq_true_eq,decide_eq_true_eq,←q1,←q2,qL]
  omega
 ·rintro⟨x,hx,hf⟩
  have hx0:=hb.Q4 x hx
  have hxn:=hr.rn (by omega) (by omega) x hx
  obtain⟨q1,q2,q3⟩:=OW x hx0.1 hxn
  unfold qp at hf
  rw[Bool.and_eq_true,decide_eq_true_eq,decide_eq_true_eq,←q1,←q2,qL]at hf
  refine⟨x.toNat,List.mem_range.2 (by omega),?_⟩
  rw[Bool.and_eq_true,decide_eq_true_eq,hb.bit,Int.toNat_of_nonneg hx0.1]
  exact⟨hx,by omega,hf.2⟩
end Go.Proofs.YtcddlnmcjmhbcaaDoor
namespace Go.Proofs.YtcddlnmcjmhbcaaDoor
set_option linter.unusedVariables false
set_option linter.unusedSimpArgs false
theorem IG {S:Int} {i:Int} {e:Ev} {l:List Ev} (h:e.th≠i):bC S i (e :: l)=bC S i l:=by simp[bC,h]
theorem Cc {S:Int} {i:Int} {e:Ev} {l:List Ev} (h:e.th=i):bC S i (e :: l)=eP S (bC S i l) e:=by simp[bC,h]
theorem sU (S i:Int) (e:Ev) (l:List Ev):og S i (e :: l)=og S i l+if e.th=i∧(e.kind=7∨e.kind=9)∧dQ (bC S i (e :: l))=true then 1 else 0:=rfl
theorem vF.keep {s s':Sh} {l:List Ev} {e:Ev} (h:vF s l) {th:Nat} {t':Th} (bY:e.th=(th:Int)) (hlt:th < s.aN.length) (kM:s'.aN=s.aN.set th t') (hn:s'.aX.length=s.aX.length)
  (wH:s'.clock=lZ (e :: l)) (hown:∀ i,i < s.aX.length→vH s' i=dR (e :: l) i) (Yf:∀ i,i < s.aX.length→Pe s' i=fM (e :: l) i)
  (how:∀ i,i < s.aX.length→∀ j:Nat,vH s' i=(j:Int)→(s'.aN.getD j Th.zero).owned.testBit i=true)
  (ht:Ls s.n t' (eP s.n (bC s.n th l) e))
  (hc:t'.aP=(s.aN.getD th Th.zero).aP+if(e.kind=7∨e.kind=9)∧dQ (eP s.n (bC s.n th l) e)=true then 1 else 0)
  (hb:4≤t'.at_→t'.at_≤6→jZ (e :: l) th=t'.wv):vF s' (e :: l):=by
 have hsn:s'.n=s.n:=by unfold Sh.n;rw[hn]
 refine⟨wH,fun i hi=>hown i (by omega),fun i hi=>Yf i (by omega),fun i hi=>how i (by omega),fun i hi=>?_⟩
 rw[kM,List.length_set]at hi
 rw[kM,hsn]
 by_cases he:th=i
 ·subst he
  rw[aQ _ _ _ _ hlt,Cc bY]
  refine⟨ht,?_,hb⟩
  rw[hc,(h.th th hlt).2.1,sU,Cc bY]
  simp only[bY,true_and]
 ·rw[getD_set_ne _ _ _ _ _ he,IG (by omega)]
  obtain⟨h1,h2,h3⟩:=h.th i hi
  refine⟨h1,?_,fun g1 g2=>?_⟩
  ·rw[h2,sU,if_neg (by rintro⟨q,-⟩;omega),Int.add_zero]
  ·rw[←h3 g1 g2]
   show(if e.kind=5∧e.th=(i:Int)then e.v else jZ l i)=_
   rw[if_neg (by rintro⟨-,q⟩;omega)]
theorem xK {s s':Sh} {th:Nat} {t':Th} (hlt:th < s.aN.length) (kM:s'.aN=s.aN.set th t') (h:∀ i,i < s.aX.length→∀ j:Nat,vH s i=(j:Int)→(s.aN.getD j Th.zero).owned.testBit i=true)
  (hs:∀ i,i < s.aX.length→∀ j:Nat,vH s' i=(j:Int)→(j≠th→vH s i=(j:Int))∧(j=th→t'.owned.testBit i=true)):
  ∀ i,i < s.aX.length→∀ j:Nat,vH s' i=(j:Int)→(s'.aN.getD j Th.zero).owned.testBit i=true:=by
 intro i hi j hj
 obtain⟨h1,h2⟩:=hs i hi j hj
 rw[kM]
 by_cases he:th=j
 ·subst he;rw[aQ _ _ _ _ hlt];exact h2 rfl
 ·rw[getD_set_ne _ _ _ _ _ he];exact h i hi j (h1 (Ne.symm he))
theorem wF (a:AtR) (L:List Ev) (e:Ev) (h:a.L=L++[e]):lookA a=e:=by unfold lookA;rw[h];simp
theorem SH {S:Int} {l:List Int} {x:Int} (h:∀ y∈l,y < S) (hx:x < S):∀ y∈fP l x,y < S:=fun y hy=>by
 rcases(rH l x y).1 hy with rfl | hy
 ·exact hx
 ·exact h y hy
set_option maxHeartbeats 8000000 in
theorem L8 {s s':Sh} {l:List Ev} {e:Ev} (hw:Wf s) (hj:vF s l) (h:stepS s e=some s'):vF s' (e :: l):=by
 have hown1:=Gh hw h
 obtain⟨th,bY,htn,hlt,hm,hk,hat,o9,hmod,hv,hd⟩:=pI hw h
 have ht:=hw.th th hlt
 obtain⟨hr,hcm,hbv⟩:=hj.th th hlt
 have hsz:=hw.size
 have hsn:s.n=s.aX.length:=rfl
 have hown:∀ i,i < s.aX.length→vH s' i=dR (e :: l) i:=fun i hi=>by
  obtain⟨o1,o2,-,-,-,o3⟩:=hown1
  have h0:=hj.own i hi
  unfold dR
  by_cases k4:e.kind=4
  ·rw[(o1 k4).2.2 i,if_pos k4,h0]
   by_cases hi:e.at_=(i:Int)
   ·rw[if_pos hi,if_pos (by omega)]
   ·rw[if_neg hi,if_neg (by omega)]
  rw[if_neg k4]
  by_cases k9:e.kind=9∨e.kind=11
  ·rw[(o2 k9).2.2 i,if_pos k9,h0]
   by_cases hi:e.at_=(i:Int)
   ·rw[if_pos hi,if_pos (by omega)]
   ·rw[if_neg hi,if_neg (by omega)]
  rw[if_neg k9,o3 k4 (by omega) (by omega) i,h0]
  split <;> rfl
 have oK:e.kind≠2→e.kind≠9→(∀ i,i < s.aX.length→Pe s' i=Pe s i)→∀ i,i < s.aX.length→Pe s' i=fM (e :: l) i:=fun k2 k9 hh i hi=>by
  unfold fM
  rw[if_neg (by omega),if_neg (by omega),hh i hi,hj.jD i hi]
 have nP:e.kind≠1→e.kind≠5→s.clock=lZ (e :: l):=fun k1 k5=>by
  unfold lZ;rw[if_neg (by omega)];exact hj.clk
 have Qe:e.kind≠5→jZ (e :: l) th=jZ l th:=fun k5=>by
  show(if e.kind=5∧e.th=(th:Int)then e.v else jZ l th)=_
  rw[if_neg (by omega)]
 have Yp:∀ {t':Th},s'.aN=s.aN.set th t'→e.kind≠4→e.kind≠9→e.kind≠11→(∀ b,(s.aN.getD th Th.zero).owned.testBit b=true→t'.owned.testBit b=true)→∀ i,i < s.aX.length→∀ j:Nat,vH s' i=(j:Int)→(s'.aN.getD j Th.zero).owned.testBit i=true:=fun{t'} kM k4 k9 k11 hb=>
  xK hlt kM hj.ow fun i hi j hij=>by
   rw[hown1.2.2.2.2.2 k4 k9 k11 i]at hij
   exact⟨fun _=>hij,fun hjt=>by subst hjt;exact hb i (hj.ow i hi _ hij)⟩
 have Rk:=hr.over
 have h0:=ht.at0
 have hn0:s.n≤32:=by omega
 generalize hT:s.aN.getD th Th.zero=t at ht hr hcm hbv Rk h0 hd
 generalize ha:bC s.n (↑th) l=a at hr Rk
 have l1:=hr.l1;have l2:=hr.l2;have l3:=hr.l3;have l4:=hr.l4;have l5:=hr.l5;have l6:=hr.l6;have l7:=hr.l7;have l8:=hr.l8
 have Lm:=hr.rv;have hNE:=hr.ne;have Ku:=hr.ob;have Lp:=hr.rb;have NG:=hr.rn;have Qg:=hr.cl;have hCB:=hr.cb;have hC0:=hr.c0;have Lr:=hr.f0;have YH:=hr.lk;have hS0:=hr.s0;have hS5:=hr.s5;have Xz:=hr.wv;have NF:=hr.wy;have TE:=hr.w7
 have keep:∀ {t':Th} (a':AtR),eP s.n a e=a'→s'.aN=s.aN.set th t'→s'.aX.length=s.aX.length→s'.clock=lZ (e :: l)→(∀ i,i < s.aX.length→Pe s' i=fM (e :: l) i)→
   (∀ i,i < s.aX.length→∀ j:Nat,vH s' i=(j:Int)→(s'.aN.getD j Th.zero).owned.testBit i=true)→Ls s.n t' a'→t'.aP=t.aP+(if(e.kind=7∨e.kind=9)∧dQ a'=true then 1 else 0)→(4≤t'.at_→t'.at_≤6→jZ (e :: l) th=t'.wv)→vF s' (e :: l):=
  fun a' e1 e2 e3 e4 e5 e6 e7 e8 e9=>by
   subst e1
   exact hj.keep bY hlt e2 e3 e4 hown e5 e6 (by rw[ha];exact e7) (by rw[ha,hT];exact e8) e9
 have qI:∀ {t':Th} (a':AtR),eP s.n a e=a'→s'.aN=s.aN.set th t'→s'.aX.length=s.aX.length→s'.clock=lZ (e :: l)→(∀ i,i < s.aX.length→Pe s' i=fM (e :: l) i)→
   e.kind≠4→e.kind≠9→e.kind≠11→(∀ b,t.owned.testBit b=true→t'.owned.testBit b=true)→Ls s.n t' a'→t'.aP=t.aP+(if(e.kind=7∨e.kind=9)∧dQ a'=true then 1 else 0)→(4≤t'.at_→t'.at_≤6→jZ (e :: l) th=t'.wv)→vF s' (e :: l):=
  fun a' e1 e2 e3 e4 e5 q4 q9 q11 e6 e7 e8 e9=>keep a' e1 e2 e3 e4 e5 (Yp e2 q4 q9 q11 (by rw[hT];exact e6)) e7 e8 e9
 unfold nZ at hd
 by_cases k1:e.kind=1
 ·rw[if_pos k1]at hd
  unfold iU at hd;split at hd
  case isFalse=>cases hd
  rename_i hc
  have hid:=ht.idle (Or.inl hc.1)
  cases hd
  refine qI ⟨[e],e.v,0,[],[],[],0,[],0,1⟩ (by simp[eP,gu,kN,k1]) (t':=⟨1,t.aP,e.v,0,0,0,0,0,0,0,-1,-1,false⟩) (by simp[Sh.aI,htn]) rfl (by simp[lZ,k1,Sh.aI]) (oK (by omega) (by omega) fun _ _=>rfl) (by omega) (by omega) (by omega) (fun b hb=>by rw[hid,Nat.zero_testBit]at hb;cases hb) ?_ ?_ (by simp)
  ·refine⟨by simp[dQ],by simp,by simp,by simp,by simp,by simp,by simp,by simp,by simp,by simp,by simp,by simp,by simp,by simp,fun _ _=>by simpa using iC.nil,fun _ _=>iC.nil,by simp,by simp,by simp,by simp,by simp,by simp[iy],by simp,by simp,by simp,by simp,by simp⟩
  ·simp[k1]
 rw[if_neg k1]at hd
 by_cases k2:e.kind=2
 ·rw[if_pos k2]at hd
  unfold lJ at hd;split at hd
  case isFalse=>cases hd
  rename_i hc
  obtain⟨hs1,hs2⟩:=o9 (by omega) (by omega)
  cases hd
  refine qI { a with L:=a.L++[e],last:=2 } (by simp[eP,gu,kN,k2]) (t':={ t with at_:=2,dJ:=e.at_,v:=e.v }) (by simp[Sh.aI,Sh.setSt,htn]) (by simp[Sh.aI,Sh.setSt]) (nP k1 (by omega)) (fun i hi=>?_) (by omega) (by omega) (by omega) (fun b hb=>hb) ?_ ?_ (by simp)
  ·show((s.aX.set e.at_.toNat (-1,e.v)).getD i (-1,0)).2=_
   unfold fM
   by_cases hi2:e.at_.toNat=i
   ·subst hi2;rw[aQ _ _ _ _ hs2,if_pos ⟨by omega,k2⟩]
   ·rw[getD_set_ne _ _ _ _ _ hi2,if_neg (by omega),if_neg (by omega),←hj.jD i hi];rfl
  ·have:=hc.1
   refine⟨by simp[dQ],by simp,by simp,by simp,by simp,fun _=>by rw[wF _ a.L e rfl];exact⟨rfl,rfl⟩,by simp,by simp,by simp,by simp,by simp,by simp,fun _ _=>Lm (by omega) (by omega),by simp,fun _ _=>Ku (by omega) (by omega),fun _ _=>Lp (by omega) (by omega),fun _ _=>NG (by omega) (by omega),fun _ _=>Qg (by omega) (by omega),by simp,fun _ _=>hC0 (by omega) (by omega),fun _ _=>Lr (by omega) (by omega),fun _ _=>YH (by omega) (by omega),fun _ _=>hS0 (by omega) (by omega),by simp,by simp,fun _ _ _=>NF (by omega) (by omega) (by omega),by simp⟩
  ·simp[k2]
 rw[if_neg k2]at hd
 by_cases k3:e.kind=3
 ·rw[if_pos k3]at hd
  unfold lK at hd;split at hd
  case isFalse=>cases hd
  rename_i hc
  have:=hc.1
  cases hd
  refine qI { a with L:=a.L++[e],last:=3,read:=fP a.read (e.at_ % s.n) } (by simp[eP,gu,kN,k3]) (t':={ t with at_:=1,read:=qf t.read t.dJ.toNat }) (by simp[Sh.aI,htn]) rfl (nP k1 (by omega)) (oK (by omega) (by omega) fun _ _=>rfl) (by omega) (by omega) (by omega) (fun b hb=>hb) ?_ ?_ (by simp)
  ·refine⟨by simp[dQ],by simp,by simp,by simp,by simp,by simp,by simp,by simp,by simp,by simp,by simp,by simp,fun _ _=>Lm (by omega) (by omega),by simp,fun _ _=>Ku (by omega) (by omega),fun _ _=>by rw[←hc.2.1];exact(Lp (by omega) (by omega)).put (by omega),fun _ _=>SH (NG (by omega) (by omega)) hmod.2,fun _ _=>by rw[(hC0 (by omega) (by omega)).2];exact Nat.zero_le _,by simp,fun _ _=>hC0 (by omega) (by omega),fun _ _=>Lr (by omega) (by omega),fun _ _=>YH (by omega) (by omega),fun _ _=>hS0 (by omega) (by omega),by simp,by simp,fun _ _ _=>NF (by omega) (by omega) (by omega),by simp⟩
  ·simp[k3]
 rw[if_neg k3]at hd
 by_cases k4:e.kind=4
 ·rw[if_pos k4]at hd
  unfold mF at hd;split at hd
  case isFalse=>cases hd
  rename_i hc
  have:=hc.1
  obtain⟨hs1,hs2⟩:=o9 (by omega) (by omega)
  cases hd
  refine keep { a with L:=a.L++[e],last:=4,locked:=a.locked++[e.at_] } (by simp[eP,gu,kN,k4]) (t':={ t with at_:=3,locked:=e.at_,owned:=qf t.owned e.at_.toNat }) (by simp[Sh.aI,Sh.setSt,htn]) (by simp[Sh.aI,Sh.setSt]) (nP k1 (by omega)) (oK (by omega) (by omega) fun i hi=>?_) (xK (t':={ t with at_:=3,locked:=e.at_,owned:=qf t.owned e.at_.toNat }) hlt (by simp[Sh.aI,Sh.setSt,htn]) hj.ow fun i hi j hij=>?_) ?_ ?_ (by simp)
  ·show((s.aX.set e.at_.toNat (e.th,s.jD e.at_)).getD i (-1,0)).2=_
   by_cases hi2:e.at_.toNat=i
   ·subst hi2;rw[aQ _ _ _ _ hs2];rfl
   ·rw[getD_set_ne _ _ _ _ _ hi2];rfl
  ·rw[(hown1.1 k4).2.2 i]at hij
   by_cases hi2:i=e.at_.toNat
   ·rw[if_pos hi2]at hij
    exact⟨fun q=>absurd (by omega) q,fun _=>by simp[gq,hi2]⟩
   ·rw[if_neg hi2]at hij
    refine⟨fun _=>hij,fun hjt=>?_⟩
    subst hjt
    have:=hj.ow i hi _ hij
    rw[hT]at this
    simp[gq,this]
  ·have hf:=Lr (by omega) (by omega)
   refine⟨by simp[dQ],by simp,by simp,by simp,by simp,by simp,by simp,by simp,by simp,by simp,by simp,by simp,fun _ _=>Lm (by omega) (by omega),by simp,fun _ _=>?_,fun _ _=>Lp (by omega) (by omega),fun _ _=>NG (by omega) (by omega),fun _ _=>Qg (by omega) (by omega),by simp,fun _ _=>hC0 (by omega) (by omega),fun _ _=>Lr (by omega) (by omega),fun _ _=>by simp[iy],fun _ _=>hS0 (by omega) (by omega),by simp,by simp,fun _ _ _=>NF (by omega) (by omega) (by omega),by simp⟩
   have hob:=Ku (by omega) (by omega)
   rw[hf]at hob⊢
   simp only[List.length_nil,List.drop_zero]at hob⊢
   exact hob.snoc (by omega) (by rw[←YH (by omega) (by omega)];exact hc.2.1)
  ·simp[k4]
 rw[if_neg k4]at hd
 by_cases k5:e.kind=5
 ·rw[if_pos k5]at hd
  unfold kR at hd;split at hd
  case isFalse=>cases hd
  rename_i hc
  have:=hc.1
  cases hd
  refine qI { a with L:=a.L++[e],last:=5,wv:=e.v } (by simp[eP,gu,kN,k5]) (t':={ t with at_:=4,wv:=e.v,check:=if e.v=t.rv+1 then t.check else t.read }) (by simp[Sh.aI,htn]) rfl (by simp[lZ,k5,Sh.aI]) (oK (by omega) (by omega) fun _ _=>rfl) (by omega) (by omega) (by omega) (fun b hb=>hb) ?_ ?_ ?_
  ·obtain⟨c1,c2⟩:=hC0 (by omega) (by omega)
   refine⟨by simp[dQ],by simp,by simp,by simp,by simp,by simp,by simp,by simp,by simp,by simp,by simp,by simp,fun _ _=>Lm (by omega) (by omega),by simp,fun _ _=>Ku (by omega) (by omega),fun _ _=>Lp (by omega) (by omega),fun _ _=>NG (by omega) (by omega),fun _ _=>Qg (by omega) (by omega),fun _=>?_,by simp,fun _ _=>Lr (by omega) (by omega),by simp,fun _ _=>hS0 (by omega) (by omega),by simp,by simp,fun _ _ _=>NF (by omega) (by omega) (by omega),by simp⟩
   unfold leftA
   simp only[c1,c2,Lm (by omega) (by omega)]
   split
   ·exact iC.nil
   ·simpa using Lp (by omega) (by omega)
  ·simp[k5]
  ·intro _ _;show(if e.kind=5∧e.th=(th:Int)then e.v else jZ l th)=_;rw[if_pos ⟨k5,bY⟩]
 rw[if_neg k5]at hd
 by_cases k6:e.kind=6
 ·rw[if_pos k6]at hd
  unfold ji at hd;split at hd
  case isFalse=>cases hd
  rename_i hc
  have:=hc.1
  obtain⟨hs1,hs2⟩:=o9 (by omega) (by omega)
  have hcb:=hCB hc.1
  have hhd:=(hcb.head ⟨hat.1,by omega⟩).1 hc.2.1
  cases hd
  refine qI { a with L:=a.L++[e],last:=6,checked:=a.checked+1 } (by simp[eP,gu,kN,k6]) (t':={ t with check:=fV t.check e.at_.toNat }) (by simp[Sh.aI,htn]) rfl (nP k1 (by omega)) (oK (by omega) (by omega) fun _ _=>rfl) (by omega) (by omega) (by omega) (fun b hb=>hb) ?_ ?_ ?_
  ·have hne:¬ a.wv=a.rv+1:=fun hne=>by unfold leftA at hhd;rw[if_pos hne]at hhd;cases hhd
   unfold leftA at hhd hcb
   rw[if_neg hne]at hhd hcb
   have hdr:=head_drop hhd
   rw[hdr]at hcb
   refine⟨by simp[dQ];omega,by simp;omega,by simp;omega,by simp;omega,by simp;omega,by simp;omega,by simp;omega,by simp,by simp;omega,by simp;omega,by simp;omega,by simp;omega,fun _ _=>Lm (by omega) (by omega),by simp,fun _ _=>Ku (by omega) (by omega),fun _ _=>Lp (by omega) (by omega),fun _ _=>NG (by omega) (by omega),fun _ _=>?_,fun _=>?_,by simp;omega,fun _ _=>Lr (by omega) (by omega),by simp;omega,fun _ _=>hS0 (by omega) (by omega),by simp;omega,fun _ _=>Xz (by omega) (by omega),fun _ _ _=>NF (by omega) (by omega) (by omega),by simp;omega⟩
   ·rcases Nat.lt_or_ge a.checked a.read.length with h5 | h5
    ·exact h5
    ·rw[List.drop_eq_nil_of_le h5]at hdr;cases hdr
   ·unfold leftA
    rw[if_neg hne]
    exact hcb.tail
  ·simp[k6]
  ·intro q1 q2;rw[Qe k5];exact hbv q1 q2
 rw[if_neg k6]at hd
 have jT:∀ (q:Sh) (t':Th),q.aN=s.aN→(q.aI e.th t').aN=s.aN.set th t':=fun q t' h1=>by simp[Sh.aI,h1,htn]
 by_cases k7:e.kind=7
 ·rw[if_pos k7]at hd
  unfold eu at hd;split at hd
  ·rename_i hc
   have:=hc.2
   have hl0:a.locked=[]:=by
    have h1:=(Ku (by omega) (by omega)).mW.1 (ht.idle (Or.inr (Or.inl hc.2)))
    rw[Lr (by omega) (by omega)]at h1;simpa using h1
   cases hd
   have hov:dQ { a with L:=a.L++[e],last:=7 } =true:=by simp[dQ,hl0]
   refine qI { a with L:=a.L++[e],last:=7 } (by simp[eP,gu,kN,k7]) (t':={ t with at_:=0,aP:=t.aP+1 }) (jT _ _ rfl) rfl (nP k1 k5) (oK k2 (by omega) fun _ _=>rfl) (by omega) (by omega) (by omega) (fun b hb=>hb) (Ls.idle (Or.inl rfl) hov (by simp) (fun _=>by have:=NF (by omega) (by omega) (by omega);simp only;omega)) ?_ (by simp)
   rw[if_pos ⟨Or.inl k7,hov⟩]
  ·split at hd
   case isFalse=>cases hd
   rename_i hc
   have:=hc.2.1
   have hl0:a.locked≠[]:=by
    have h1:=(Ku (by omega) (by omega)).ne.1 (ht.busy (by omega))
    rw[Lr (by omega) (by omega)]at h1;simpa using h1
   cases hd
   have hov:dQ { a with L:=a.L++[e],last:=7 } =false:=by simp[dQ,hl0]
   refine qI { a with L:=a.L++[e],last:=7 } (by simp[eP,gu,kN,k7]) (t':={ t with at_:=5 }) (jT _ _ rfl) rfl (nP k1 k5) (oK k2 (by omega) fun _ _=>rfl) (by omega) (by omega) (by omega) (fun b hb=>hb) ?_ ?_ (fun _ _=>by rw[Qe k5];exact hbv (by omega) (by omega))
   ·obtain⟨c1,c2,c3⟩:=hS0 (by omega) (by omega)
    refine⟨by rw[hov];simp,by simp,by simp,by simp,by simp,by simp,by simp,by simp,by simp,by simp,by simp,by simp,fun _ _=>Lm (by omega) (by omega),by simp,fun _ _=>Ku (by omega) (by omega),fun _ _=>Lp (by omega) (by omega),fun _ _=>NG (by omega) (by omega),fun _ _=>Qg (by omega) (by omega),by simp,by simp,fun _ _=>Lr (by omega) (by omega),by simp,by simp,fun _=>?_,fun _ _=>Xz (by omega) (by omega),fun _ _ _=>NF (by omega) (by omega) (by omega),by simp⟩
    simp only[c1,c2,c3]
    exact⟨fun b=>by simp,rfl,by simp,fun _=>trivial⟩
   ·rw[if_neg (by rw[hov];simp)];simp
 rw[if_neg k7]at hd
 by_cases k8:e.kind=8
 ·rw[if_pos k8]at hd
  unfold jb at hd;split at hd
  case isFalse=>cases hd
  rename_i hc
  have:=hc.1
  obtain⟨c1,c2,c3,c4⟩:=hS5 hc.1
  have hob:=Ku (by omega) (by omega)
  have hf:=Lr (by omega) (by omega)
  cases hd
  refine qI { a with L:=a.L++[e],last:=8,stored:=a.stored++[e.at_] } (by simp[eP,gu,kN,k8]) (t':={ t with var:=e.at_,stored:=qf t.stored (e.at_ % s.n).toNat }) (jT _ _ rfl) rfl (nP k1 k5) (oK k2 (by omega) fun _ _=>rfl) (by omega) (by omega) (by omega) (fun b hb=>hb) ?_ ?_ (fun _ _=>by rw[Qe k5];exact hbv (by omega) (by omega))
  ·refine⟨by simp[dQ];omega,by simp;omega,by simp;omega,by simp;omega,by simp;omega,by simp;omega,by simp;omega,by simp;omega,by simp,by simp;omega,by simp;omega,by simp;omega,fun _ _=>Lm (by omega) (by omega),by simp,fun _ _=>Ku (by omega) (by omega),fun _ _=>Lp (by omega) (by omega),fun _ _=>NG (by omega) (by omega),fun _ _=>Qg (by omega) (by omega),by simp;omega,by simp;omega,fun _ _=>Lr (by omega) (by omega),by simp;omega,by simp;omega,fun _=>⟨fun b=>?_,by simp[iy],fun x hx=>?_,by simp⟩,fun _ _=>Xz (by omega) (by omega),fun _ _ _=>NF (by omega) (by omega) (by omega),by simp;omega⟩
   ·simp only[gq,Bool.or_eq_true,decide_eq_true_eq,c1 b]
    constructor
    ·rintro(⟨x,h1,h2⟩ | h1)
     ·exact⟨x,List.mem_append_left _ h1,h2⟩
     ·exact⟨e.at_,List.mem_append_right _ (List.mem_singleton.2 rfl),by omega⟩
    ·rintro⟨x,h1,h2⟩
     rcases List.mem_append.1 h1 with h1 | h1
     ·exact Or.inl ⟨x,h1,h2⟩
     ·rw[List.mem_singleton]at h1;subst h1;exact Or.inr (by omega)
   ·rcases List.mem_append.1 hx with hx | hx
    ·exact c3 x hx
    ·rw[List.mem_singleton.1 hx]
     have h1:=(hob.bit _).1 hc.2.2
     rw[hf,Int.toNat_of_nonneg hmod.1]at h1
     simpa using h1
  ·simp[k8]
 rw[if_neg k8]at hd
 have hdrop:1≤t.at_→t.at_≤8→e.at_ < 32→e.at_=bH t.owned→a.locked.drop a.freed.length=e.at_ :: a.locked.drop (a.freed.length+1)∧iC (fV t.owned e.at_.toNat) (a.locked.drop (a.freed.length+1))∧(fV t.owned e.at_.toNat=0↔a.freed.length+1=a.locked.length):=fun q1 q2 q3 q4=>by
  have hob:=Ku q1 q2
  have hdr:=head_drop ((hob.head ⟨hat.1,q3⟩).1 q4)
  rw[hdr]at hob
  have hlen:=congrArg List.length hdr
  simp only[List.length_drop,List.length_cons]at hlen
  refine⟨hdr,hob.tail,?_⟩
  rw[hob.tail.mW,List.drop_eq_nil_iff]
  omega
 by_cases k9:e.kind=9
 ·rw[if_pos k9]at hd
  unfold iT at hd;split at hd
  case isFalse=>cases hd
  rename_i hc
  obtain⟨hs1,hs2⟩:=o9 k3 k8
  obtain⟨d1,d2,d3⟩:=hdrop (by omega) (by omega) (by omega) hc.2
  have Nc:=NF (by omega) (by omega) (by omega)
  have Ef:∀ i,i < s.aX.length→((s.aX.set e.at_.toNat (-1,t.wv)).getD i (-1,0)).2=fM (e :: l) i:=fun i hi=>by
   unfold fM
   by_cases hi2:e.at_.toNat=i
   ·subst hi2;rw[aQ _ _ _ _ hs2,if_neg (by omega),if_pos ⟨by omega,k9⟩,bY];exact(hbv (by omega) (by omega)).symm
   ·rw[getD_set_ne _ _ _ _ _ hi2,if_neg (by omega),if_neg (by omega),←hj.jD i hi];rfl
  have Np:∀ {t':Th},s'.aN=s.aN.set th t'→t'.owned=fV t.owned e.at_.toNat→∀ i,i < s.aX.length→∀ j:Nat,vH s' i=(j:Int)→(s'.aN.getD j Th.zero).owned.testBit i=true:=fun{t'} h1 h2=>xK hlt h1 hj.ow fun i hi j hij=>by
   rw[(hown1.2.1 (Or.inl k9)).2.2 i]at hij
   by_cases hi2:i=e.at_.toNat
   ·rw[if_pos hi2]at hij;omega
   ·rw[if_neg hi2]at hij
    refine⟨fun _=>hij,fun hjt=>?_⟩
    subst hjt
    have:=hj.ow i hi _ hij
    rw[hT]at this
    rw[h2,iE,this];simp;omega
  have hst:eP s.n a e={ a with L:=a.L++[e],last:=9,freed:=a.freed++[e.at_] }:=by simp[eP,gu,kN,k9]
  by_cases hz:fV t.owned e.at_.toNat=0
  ·rw[if_pos hz]at hd
   have hov:dQ { a with L:=a.L++[e],last:=9,freed:=a.freed++[e.at_] } =true:=by simp[dQ];exact d3.1 hz
   cases hd
   refine keep _ hst (t':={ t with at_:=0,owned:=fV t.owned e.at_.toNat,aP:=t.aP+1 }) (jT _ _ rfl) (by simp[Sh.aI,Sh.setSt]) (nP k1 k5) Ef (Np (jT _ _ rfl) rfl) (Ls.idle (Or.inl rfl) hov (by simp) (fun _=>by simp only;omega)) ?_ (by simp)
   rw[if_pos ⟨Or.inr k9,hov⟩]
  ·rw[if_neg hz]at hd
   have hov:dQ { a with L:=a.L++[e],last:=9,freed:=a.freed++[e.at_] } =false:=by simp[dQ];exact fun h=>hz (d3.2 h)
   cases hd
   refine keep _ hst (t':={ t with at_:=6,owned:=fV t.owned e.at_.toNat }) (jT _ _ rfl) (by simp[Sh.aI,Sh.setSt]) (nP k1 k5) Ef (Np (jT _ _ rfl) rfl) ?_ (by rw[if_neg (by rw[hov];simp)];simp) (fun _ _=>by rw[Qe k5];exact hbv (by omega) (by omega))
   refine⟨by rw[hov];simp,by simp,by simp,by simp,by simp,by simp,by simp,by simp,by simp,by simp,by simp,by simp,fun _ _=>Lm (by omega) (by omega),by simp,fun _ _=>by simpa using d2,fun _ _=>Lp (by omega) (by omega),fun _ _=>NG (by omega) (by omega),fun _ _=>Qg (by omega) (by omega),by simp,by simp,by simp,by simp,by simp,by simp,fun _ _=>Xz (by omega) (by omega),fun _ _ _=>Nc,by simp⟩
 rw[if_neg k9]at hd
 by_cases k10:e.kind=10
 ·rw[if_pos k10]at hd
  unfold jk at hd;split at hd
  case isFalse=>cases hd
  rename_i hc
  have VY:1≤t.at_∧t.at_≤4∧(e.why=6→t.at_=3):=by
   unfold dA at hc
   (repeat' split at hc) <;> simp only[Bool.and_eq_true,decide_eq_true_eq,Bool.false_eq_true]at hc <;> omega
  have hf:=Lr (by omega) (by omega)
  have hob:=Ku (by omega) (by omega)
  have CG:iC t.owned a.locked:=by rw[hf]at hob;simpa using hob
  have hst:eP s.n a e={ a with L:=a.L++[e],last:=10,why:=e.why }:=by simp[eP,gu,kN,k10]
  by_cases hz:t.owned=0
  ·rw[if_pos hz]at hd
   have hl0:=CG.mW.1 hz
   have hov:dQ { a with L:=a.L++[e],last:=10,why:=e.why } =true:=by simp[dQ,hl0]
   cases hd
   refine qI _ hst (t':={ t with at_:=0,full:=decide (e.why=6) }) (jT _ _ rfl) rfl (nP k1 k5) (oK k2 k9 fun _ _=>rfl) (by omega) (by omega) (by omega) (fun b hb=>hb) (Ls.idle (Or.inl rfl) hov (by simp) (fun _ h6=>ht.busy (Or.inl (VY.2.2 h6)) hz)) (by simp[k10]) (by simp)
  ·rw[if_neg hz]at hd
   have hl0:=CG.ne.1 hz
   have hov:dQ { a with L:=a.L++[e],last:=10,why:=e.why } =false:=by simp[dQ,hl0]
   cases hd
   refine qI _ hst (t':={ t with at_:=7,full:=decide (e.why=6) }) (jT _ _ rfl) rfl (nP k1 k5) (oK k2 k9 fun _ _=>rfl) (by omega) (by omega) (by omega) (fun b hb=>hb) ?_ (by simp[k10]) (by simp)
   refine⟨by rw[hov];simp,by simp,by simp,by simp,by simp,by simp,by simp,by simp,by simp,by simp,by simp,by simp,fun _ _=>Lm (by omega) (by omega),by simp,fun _ _=>hob,fun _ _=>Lp (by omega) (by omega),fun _ _=>NG (by omega) (by omega),fun _ _=>Qg (by omega) (by omega),by simp,by simp,by simp,by simp,by simp,by simp,by simp,by simp,by simp⟩
 rw[if_neg k10]at hd
 by_cases k11:e.kind=11
 ·rw[if_pos k11]at hd
  unfold jX at hd;split at hd
  case isFalse=>cases hd
  rename_i hc
  have:=hc.1
  obtain⟨hs1,hs2⟩:=o9 k3 k8
  obtain⟨d1,d2,d3⟩:=hdrop (by omega) (by omega) (by omega) hc.2
  have hw7:=TE hc.1
  have Ef:∀ i,i < s.aX.length→((s.aX.set e.at_.toNat (-1,s.jD e.at_)).getD i (-1,0)).2=Pe s i:=fun i hi=>by
   by_cases hi2:e.at_.toNat=i
   ·subst hi2;rw[aQ _ _ _ _ hs2];rfl
   ·rw[getD_set_ne _ _ _ _ _ hi2];rfl
  have Np:∀ {t':Th},s'.aN=s.aN.set th t'→t'.owned=fV t.owned e.at_.toNat→∀ i,i < s.aX.length→∀ j:Nat,vH s' i=(j:Int)→(s'.aN.getD j Th.zero).owned.testBit i=true:=fun{t'} h1 h2=>xK hlt h1 hj.ow fun i hi j hij=>by
   rw[(hown1.2.1 (Or.inr k11)).2.2 i]at hij
   by_cases hi2:i=e.at_.toNat
   ·rw[if_pos hi2]at hij;omega
   ·rw[if_neg hi2]at hij
    refine⟨fun _=>hij,fun hjt=>?_⟩
    subst hjt
    have:=hj.ow i hi _ hij
    rw[hT]at this
    rw[h2,iE,this];simp;omega
  have hst:eP s.n a e={ a with L:=a.L++[e],last:=11,freed:=a.freed++[e.at_] }:=by simp[eP,gu,kN,k11]
  by_cases hz:fV t.owned e.at_.toNat=0
  ·rw[if_pos hz]at hd
   have hov:dQ { a with L:=a.L++[e],last:=11,freed:=a.freed++[e.at_] } =true:=by simp[dQ];exact d3.1 hz
   cases hd
   refine keep _ hst (t':={ t with at_:=if t.full=true then 9 else 0,owned:=fV t.owned e.at_.toNat }) (jT _ _ rfl) (by simp[Sh.aI,Sh.setSt]) (nP k1 k5) (oK k2 k9 Ef) (Np (jT _ _ rfl) rfl) ?_ (by simp[k11]) (by simp only;split <;> omega)
   refine Ls.idle (by simp only;split <;> simp) hov (fun h9=>?_) (fun h9=>?_)
   ·simp only at h9⊢
    by_cases hfu:t.full=true
    ·exact hw7.2 hfu
    ·rw[if_neg hfu]at h9;omega
   ·simp only at h9⊢
    by_cases hfu:t.full=true
    ·rw[if_pos hfu]at h9;omega
    ·exact fun h6=>hfu (hw7.1 h6)
  ·rw[if_neg hz]at hd
   have hov:dQ { a with L:=a.L++[e],last:=11,freed:=a.freed++[e.at_] } =false:=by simp[dQ];exact fun h=>hz (d3.2 h)
   cases hd
   refine keep _ hst (t':={ t with at_:=7,owned:=fV t.owned e.at_.toNat }) (jT _ _ rfl) (by simp[Sh.aI,Sh.setSt]) (nP k1 k5) (oK k2 k9 Ef) (Np (jT _ _ rfl) rfl) ?_ (by simp[k11]) (by simp)
   refine⟨by rw[hov];simp,by simp,by simp,by simp,by simp,by simp,by simp,by simp,by simp,by simp,by simp,by simp,fun _ _=>Lm (by omega) (by omega),by simp,fun _ _=>by simpa using d2,fun _ _=>Lp (by omega) (by omega),fun _ _=>NG (by omega) (by omega),fun _ _=>Qg (by omega) (by omega),by simp,by simp,by simp,by simp,by simp,by simp,by simp,by simp,fun _=>hw7⟩
 rw[if_neg k11]at hd
 by_cases k12:e.kind=12
 ·rw[if_pos k12]at hd
  unfold oz at hd;split at hd
  case isFalse=>cases hd
  rename_i hc
  cases hd
  refine qI { a with L:=a.L++[e],last:=12 } (by simp[eP,gu,kN,k12]) (t':={ t with at_:=8 }) (jT _ _ rfl) rfl (nP k1 k5) (oK k2 k9 fun _ _=>rfl) (by omega) (by omega) (by omega) (fun b hb=>hb) ?_ (by simp[k12]) (by simp)
  refine⟨by simp[dQ],by simp,by simp,by simp,by simp,by simp,by simp,by simp,by simp,by simp,by simp,by simp,fun _ _=>Lm (by omega) (by omega),by simp,fun _ _=>Ku (by omega) (by omega),fun _ _=>Lp (by omega) (by omega),fun _ _=>NG (by omega) (by omega),fun _ _=>Qg (by omega) (by omega),by simp,by simp,by simp,by simp,by simp,by simp,by simp,fun _ _ _=>NF (by omega) (by omega) (by omega),by simp⟩
 rw[if_neg k12]at hd
 unfold ny at hd;split at hd
 case isFalse=>cases hd
 rename_i hc
 have:=hc.1
 have k13:e.kind=13:=by omega
 cases hd
 refine qI { a with L:=a.L++[e],last:=13 } (by simp[eP,gu,kN,k13]) (t':={ t with at_:=0 }) (jT _ _ rfl) rfl (nP k1 k5) (oK k2 k9 fun _ _=>rfl) (by omega) (by omega) (by omega) (fun b hb=>hb) (Ls.idle (Or.inl rfl) (by simp[dQ]) (by simp) (fun _=>by have:=NF (by omega) (by omega) (by omega);simp only;omega)) (by simp[k13]) (by simp)
theorem FU {s s':Sh} {e:Ev} (h:stepS s e=some s'):s'.aN.length=s.aN.length∧s'.aX.length=s.aX.length∧s'.vars=s.vars:=by
 unfold stepS at h
 split at h
 case isFalse=>cases h
 unfold nZ at h
 by_cases k1:e.kind=1
 ·rw[if_pos k1]at h;unfold iU at h;split at h
  all_goals first | (have h:=Option.some.inj h;subst h;simp[Sh.aI,Sh.setSt];done) | (cases h)
 rw[if_neg k1]at h
 by_cases k2:e.kind=2
 ·rw[if_pos k2]at h;unfold lJ at h;split at h
  all_goals first | (have h:=Option.some.inj h;subst h;simp[Sh.aI,Sh.setSt];done) | (cases h)
 rw[if_neg k2]at h
 by_cases k3:e.kind=3
 ·rw[if_pos k3]at h;unfold lK at h;split at h
  all_goals first | (have h:=Option.some.inj h;subst h;simp[Sh.aI,Sh.setSt];done) | (cases h)
 rw[if_neg k3]at h
 by_cases k4:e.kind=4
 ·rw[if_pos k4]at h;unfold mF at h;split at h
  all_goals first | (have h:=Option.some.inj h;subst h;simp[Sh.aI,Sh.setSt];done) | (cases h)
 rw[if_neg k4]at h
 by_cases k5:e.kind=5
 ·rw[if_pos k5]at h;unfold kR at h;split at h
  all_goals first | (have h:=Option.some.inj h;subst h;simp[Sh.aI,Sh.setSt];done) | (cases h)
 rw[if_neg k5]at h
 by_cases k6:e.kind=6
 ·rw[if_pos k6]at h;unfold ji at h;split at h
  all_goals first | (have h:=Option.some.inj h;subst h;simp[Sh.aI,Sh.setSt];done) | (cases h)
 rw[if_neg k6]at h
 by_cases k7:e.kind=7
 ·rw[if_pos k7]at h;unfold eu at h;split at h
  ·first | (have h:=Option.some.inj h;subst h;simp[Sh.aI,Sh.setSt];done) | (cases h)
  ·split at h <;> first | (have h:=Option.some.inj h;subst h;simp[Sh.aI,Sh.setSt];done) | (cases h)
 rw[if_neg k7]at h
 by_cases k8:e.kind=8
 ·rw[if_pos k8]at h;unfold jb at h;split at h
  all_goals first | (have h:=Option.some.inj h;subst h;simp[Sh.aI,Sh.setSt];done) | (cases h)
 rw[if_neg k8]at h
 by_cases k9:e.kind=9
 ·rw[if_pos k9]at h;unfold iT at h;split at h
  all_goals first | (have h:=Option.some.inj h;subst h;simp[Sh.aI,Sh.setSt];done) | (cases h)
 rw[if_neg k9]at h
 by_cases k10:e.kind=10
 ·rw[if_pos k10]at h;unfold jk at h;split at h
  all_goals first | (have h:=Option.some.inj h;subst h;simp[Sh.aI,Sh.setSt];done) | (cases h)
 rw[if_neg k10]at h
 by_cases k11:e.kind=11
 ·rw[if_pos k11]at h;unfold jX at h;split at h
  all_goals first | (have h:=Option.some.inj h;subst h;simp[Sh.aI,Sh.setSt];done) | (cases h)
 rw[if_neg k11]at h
 by_cases k12:e.kind=12
 ·rw[if_pos k12]at h;unfold oz at h;split at h
  all_goals first | (have h:=Option.some.inj h;subst h;simp[Sh.aI,Sh.setSt];done) | (cases h)
 rw[if_neg k12]at h
 unfold ny at h;split at h <;> first | (have h:=Option.some.inj h;subst h;simp[Sh.aI,Sh.setSt];done) | (cases h)
theorem NM {T V S:Int} (h:eY T V S=true) {r:List Ev} {s:Sh} (hr:jc (fF T V S) r.reverse=some s):Wf s∧vF s r∧(s.aN.length:Int)=T∧s.n=S∧s.vars=V:=by
 have key:∀ (r:List Ev) (s:Sh),jc (fF T V S) r.reverse=some s→Wf s∧vF s r∧(s.aN.length:Int)=T∧s.n=S∧s.vars=V:=by
  intro r
  induction r with
  | nil=>
   intro s hr
   cases hr
   have h':=h
   unfold eY at h'
   rw[decide_eq_true_eq]at h'
   exact⟨xN h,vF.new T V S,by simp[fF];omega,by simp[fF,Sh.n];omega,rfl⟩
  | cons e r ih=>
   intro s hr
   rw[List.reverse_cons,vX]at hr
   cases hq:jc (fF T V S) r.reverse with
   | none=>rw[hq]at hr;cases hr
   | some q=>
    rw[hq]at hr
    have hr:stepS q e=some s:=hr
    obtain⟨h1,h2,h3,h4,h5⟩:=ih q hq
    obtain⟨g1,g2,g3⟩:=FU hr
    exact⟨qR h1 hr,L8 h1 h2 hr,by rw[g1];exact h3,by rw[←h4];unfold Sh.n;rw[g2],by rw[g3];exact h5⟩
 exact key r s hr
end Go.Proofs.YtcddlnmcjmhbcaaDoor
-- short
