/-
  Joined texts: ShK1 HiD HiP HiQ HiR HtD HtR.
-/
import Derived.Test.YtcddlnmcjmhbcaaDoorRgA
import Derived.Test.YtcddlnmcjmhbcaaDoorRgG
namespace Go.Proofs.YtcddlnmcjmhbcaaDoor
set_option linter.unusedVariables false
def Moves (k a b:Int):Prop:=
 (k=1∧a=0∧b=1)∨(k=2∧a=1∧b=2)∨(k=3∧a=2∧b=1)∨(k=4∧(a=1∨a=3)∧b=3)∨(k=5∧a=3∧b=4)∨(k=6∧a=4∧b=4)∨
 (k=7∧((a=1∧b=0)∨(a=4∧b=5)))∨(k=8∧a=5∧b=5)∨(k=9∧(a=5∨a=6)∧(b=0∨b=6))∨(k=10∧1≤a∧a≤4∧(b=0∨b=7))∨
 (k=11∧a=7∧(b=7∨b=0∨b=9))∨(k=12∧a=1∧b=8)∨(k=13∧a=8∧b=0)
theorem IZ {s:Sh} {t:Th} {e:Ev} (h:dA s t e=true):1≤t.at_∧t.at_≤4:=by
 unfold dA at h
 split at h
 ·simp only[Bool.and_eq_true,decide_eq_true_eq]at h;omega
 split at h
 ·simp only[decide_eq_true_eq]at h;omega
 split at h
 ·simp only[decide_eq_true_eq]at h;omega
 split at h
 ·simp only[Bool.and_eq_true,decide_eq_true_eq]at h;omega
 split at h
 ·simp only[Bool.and_eq_true,decide_eq_true_eq]at h;omega
 split at h
 ·simp only[decide_eq_true_eq]at h;omega
 ·cases h
theorem xQ {s s':Sh} {e:Ev} (hw:Wf s) (h:stepS s e=some s'):∃ (th:Nat) (t':Th),e.th=(th:Int)∧th < s.aN.length∧s'.aN=s.aN.set th t'∧s'.vars=s.vars∧s'.aX.length=s.aX.length∧
  Moves e.kind (s.aN.getD th Th.zero).at_ t'.at_∧(e.kind≠7→e.kind≠9→t'.aP=(s.aN.getD th Th.zero).aP)∧s.clock≤s'.clock:=by
 obtain⟨th,bY,htn,hlt,hm,hk,hat,o9,hmod,hv,hd⟩:=pI hw h
 have R:∀ (q:Sh) (t':Th),q.aN=s.aN→(q.aI e.th t').aN=s.aN.set th t':=by intro q t' h1;simp only[Sh.aI,h1,htn]
 refine⟨th,?_⟩
 generalize s.aN.getD th Th.zero=t at hd⊢
 unfold nZ at hd
 by_cases k1:e.kind=1
 ·rw[if_pos k1]at hd
  unfold iU at hd;split at hd
  case isFalse=>cases hd
  rename_i hc
  cases hd
  exact⟨_,bY,hlt,R _ _ rfl,rfl,rfl,Or.inl ⟨k1,hc.1,rfl⟩,fun _ _=>rfl,hc.2.2⟩
 rw[if_neg k1]at hd
 by_cases k2:e.kind=2
 ·rw[if_pos k2]at hd
  unfold lJ at hd;split at hd
  case isFalse=>cases hd
  rename_i hc
  cases hd
  exact⟨_,bY,hlt,R _ _ rfl,rfl,by simp[Sh.aI,Sh.setSt],Or.inr (Or.inl ⟨k2,hc.1,rfl⟩),fun _ _=>rfl,Int.le_refl _⟩
 rw[if_neg k2]at hd
 by_cases k3:e.kind=3
 ·rw[if_pos k3]at hd
  unfold lK at hd;split at hd
  case isFalse=>cases hd
  rename_i hc
  cases hd
  exact⟨_,bY,hlt,R _ _ rfl,rfl,rfl,Or.inr (Or.inr (Or.inl ⟨k3,hc.1,rfl⟩)),fun _ _=>rfl,Int.le_refl _⟩
 rw[if_neg k3]at hd
 by_cases k4:e.kind=4
 ·rw[if_pos k4]at hd
  unfold mF at hd;split at hd
  case isFalse=>cases hd
  rename_i hc
  cases hd
  exact⟨_,bY,hlt,R _ _ rfl,rfl,by simp[Sh.aI,Sh.setSt],Or.inr (Or.inr (Or.inr (Or.inl ⟨k4,hc.1,rfl⟩))),fun _ _=>rfl,Int.le_refl _⟩
 rw[if_neg k4]at hd
 by_cases k5:e.kind=5
 ·rw[if_pos k5]at hd
  unfold kR at hd;split at hd
  case isFalse=>cases hd
  rename_i hc
  cases hd
  exact⟨_,bY,hlt,R { s with clock:=e.v } _ rfl,rfl,rfl,Or.inr (Or.inr (Or.inr (Or.inr (Or.inl ⟨k5,hc.1,rfl⟩)))),fun _ _=>rfl,Int.le_of_lt hc.2⟩
 rw[if_neg k5]at hd
 by_cases k6:e.kind=6
 ·rw[if_pos k6]at hd
  unfold ji at hd;split at hd
  case isFalse=>cases hd
  rename_i hc
  cases hd
  exact⟨_,bY,hlt,R _ _ rfl,rfl,rfl,Or.inr (Or.inr (Or.inr (Or.inr (Or.inr (Or.inl ⟨k6,hc.1,hc.1⟩))))),fun _ _=>rfl,Int.le_refl _⟩
 rw[if_neg k6]at hd
 by_cases k7:e.kind=7
 ·rw[if_pos k7]at hd
  unfold eu at hd;split at hd
  ·rename_i hc
   cases hd
   exact⟨_,bY,hlt,R _ _ rfl,rfl,rfl,Or.inr (Or.inr (Or.inr (Or.inr (Or.inr (Or.inr (Or.inl ⟨k7,Or.inl ⟨hc.2,rfl⟩⟩)))))),fun h7=>absurd k7 h7,Int.le_refl _⟩
  split at hd
  ·rename_i hc
   cases hd
   exact⟨_,bY,hlt,R _ _ rfl,rfl,rfl,Or.inr (Or.inr (Or.inr (Or.inr (Or.inr (Or.inr (Or.inl ⟨k7,Or.inr ⟨hc.2.1,rfl⟩⟩)))))),fun h7=>absurd k7 h7,Int.le_refl _⟩
  cases hd
 rw[if_neg k7]at hd
 by_cases k8:e.kind=8
 ·rw[if_pos k8]at hd
  unfold jb at hd;split at hd
  case isFalse=>cases hd
  rename_i hc
  cases hd
  exact⟨_,bY,hlt,R _ _ rfl,rfl,rfl,Or.inr (Or.inr (Or.inr (Or.inr (Or.inr (Or.inr (Or.inr (Or.inl ⟨k8,hc.1,hc.1⟩))))))),fun _ _=>rfl,Int.le_refl _⟩
 rw[if_neg k8]at hd
 by_cases k9:e.kind=9
 ·rw[if_pos k9]at hd
  unfold iT at hd;split at hd
  case isFalse=>cases hd
  rename_i hc
  cases hd
  exact⟨_,bY,hlt,R _ _ rfl,rfl,by simp[Sh.aI,Sh.setSt],Or.inr (Or.inr (Or.inr (Or.inr (Or.inr (Or.inr (Or.inr (Or.inr (Or.inl ⟨k9,by omega,by split;exact Or.inl rfl;exact Or.inr rfl⟩)))))))),fun _ h9=>absurd k9 h9,Int.le_refl _⟩
 rw[if_neg k9]at hd
 by_cases k10:e.kind=10
 ·rw[if_pos k10]at hd
  unfold jk at hd;split at hd
  case isFalse=>cases hd
  rename_i hc
  cases hd
  have:=IZ hc
  exact⟨_,bY,hlt,R _ _ rfl,rfl,rfl,Or.inr (Or.inr (Or.inr (Or.inr (Or.inr (Or.inr (Or.inr (Or.inr (Or.inr (Or.inl ⟨k10,this.1,this.2,by simp only;split;exact Or.inl rfl;exact Or.inr rfl⟩))))))))),fun _ _=>rfl,Int.le_refl _⟩
 rw[if_neg k10]at hd
 by_cases k11:e.kind=11
 ·rw[if_pos k11]at hd
  unfold jX at hd;split at hd
  case isFalse=>cases hd
  rename_i hc
  cases hd
  exact⟨_,bY,hlt,R _ _ rfl,rfl,by simp[Sh.aI,Sh.setSt],Or.inr (Or.inr (Or.inr (Or.inr (Or.inr (Or.inr (Or.inr (Or.inr (Or.inr (Or.inr (Or.inl ⟨k11,hc.1,by simp only;(repeat' split) <;> simp⟩)))))))))),fun _ _=>rfl,Int.le_refl _⟩
 rw[if_neg k11]at hd
 by_cases k12:e.kind=12
 ·rw[if_pos k12]at hd
  unfold oz at hd;split at hd
  case isFalse=>cases hd
  rename_i hc
  cases hd
  exact⟨_,bY,hlt,R _ _ rfl,rfl,rfl,Or.inr (Or.inr (Or.inr (Or.inr (Or.inr (Or.inr (Or.inr (Or.inr (Or.inr (Or.inr (Or.inr (Or.inl ⟨k12,hc,rfl⟩))))))))))),fun _ _=>rfl,Int.le_refl _⟩
 rw[if_neg k12]at hd
 unfold ny at hd;split at hd
 case isFalse=>cases hd
 rename_i hc
 cases hd
 exact⟨_,bY,hlt,R _ _ rfl,rfl,rfl,Or.inr (Or.inr (Or.inr (Or.inr (Or.inr (Or.inr (Or.inr (Or.inr (Or.inr (Or.inr (Or.inr (Or.inr (⟨by omega,hc.1,rfl⟩)))))))))))),fun _ _=>rfl,Int.le_refl _⟩
end Go.Proofs.YtcddlnmcjmhbcaaDoor
namespace Go.Proofs.YtcddlnmcjmhbcaaDoor
set_option linter.unusedVariables false
set_option linter.unusedSimpArgs false
def xA (m:Nat):Nat:=(List.range 32).countP fun i=>m.testBit i
theorem Ba (p:Nat→Bool) (s:Nat) (h:p s=false):∀ n,(List.range n).countP (fun i=>p i||decide (s=i))=(List.range n).countP p+if s < n then 1 else 0
 | 0=>by simp
 | n+1=>by
  rw[List.range_succ,List.countP_append,List.countP_append,Ba p s h n]
  simp only[List.countP_cons,List.countP_nil]
  by_cases he:s=n
  ·subst he
   rw[h]
   simp
  ·simp only[he,decide_false,Bool.or_false]
   by_cases hl:s < n
   ·rw[if_pos hl,if_pos (show s < n+1 by omega)];omega
   ·rw[if_neg hl,if_neg (show ¬ s < n+1 by omega)];omega
theorem zC (p:Nat→Bool) (s:Nat) (h:p s=true):∀ n,(List.range n).countP (fun i=>p i&&!decide (s=i))+(if s < n then 1 else 0)=(List.range n).countP p
 | 0=>by simp
 | n+1=>by
  have ih:=zC p s h n
  rw[List.range_succ,List.countP_append,List.countP_append]
  simp only[List.countP_cons,List.countP_nil]
  by_cases he:s=n
  ·subst he
   rw[h]
   rw[if_neg (by omega)]at ih
   simp
   omega
  ·simp only[he,decide_false,Bool.not_false,Bool.and_true]
   by_cases hl:s < n
   ·rw[if_pos hl]at ih;rw[if_pos (show s < n+1 by omega)];omega
   ·rw[if_neg hl]at ih;rw[if_neg (show ¬ s < n+1 by omega)];omega
theorem NV {m s:Nat} (h:m.testBit s=false) (hs:s < 32):xA (qf m s)=xA m+1:=by
 unfold xA
 simp only[gq]
 rw[Ba (fun i=>m.testBit i) s h 32,if_pos hs]
theorem Es {m s:Nat} (h:m.testBit s=true) (hs:s < 32):xA (fV m s)+1=xA m:=by
 unfold xA
 simp only[iE]
 have:=zC (fun i=>m.testBit i) s h 32
 rw[if_pos hs]at this
 exact this
theorem jA {m:Nat} (hm:m < 4294967296):xA m=0↔m=0:=by
 constructor
 ·intro h
  unfold xA at h
  rw[List.countP_eq_zero]at h
  refine qF hm fun i hi=>?_
  have:=h i (List.mem_range.2 hi)
  simpa using this
 ·rintro rfl
  unfold xA
  rw[List.countP_eq_zero]
  intro i _
  simp
structure aH where
 th:Int
 tx:Int
 from_:Int
 dI:Int
 rv:Int
 wv:Int
 com:Bool
 reads:List (Int×Int)
 writes:List (Int×Int)
def aH.zero:aH:=⟨0,0,0,0,0,0,false,[],[]⟩
structure HS where
 last:Int→Nat
 out:List aH
 owned:List Int
def kY (e:Ev) (i:Int):aH:=⟨e.th,e.tx,i,-1,e.v,0,false,[],[]⟩
def bK (a:aH) (o:Int) (e:Ev) (i:Int):aH:=
 if e.kind=3 then{ a with reads:=a.reads++[(e.at_,e.x)] }
 else if e.kind=8 then{ a with writes:=a.writes++[(e.at_,e.x)] }
 else if e.kind=7 then{ a with com:=true,wv:=e.v,dI:=if o=0 then i else a.dI }
 else if e.kind=9∨e.kind=11 then{ a with dI:=if o-1=0 then i else a.dI }
 else if e.kind=10 then{ a with dI:=if o=0 then i else a.dI }
 else if e.kind=12 then{ a with dI:=i }
 else a
def dY (o:Int) (e:Ev):Int:=if e.kind=4 then o+1 else if e.kind=9∨e.kind=11 then o-1 else o
def oW (f:Int→Nat) (i:Int) (x:Nat):Int→Nat:=fun j=>if j=i then x else f j
def dS (h:HS) (i:Int) (e:Ev):HS:=
 if e.kind=1 then⟨oW h.last e.th h.out.length,h.out++[kY e i],h.owned++[0]⟩
 else if e.kind=13 then h
 else⟨h.last,h.out.set (h.last e.th) (bK (h.out.getD (h.last e.th) aH.zero) (h.owned.getD (h.last e.th) 0) e i),h.owned.set (h.last e.th) (dY (h.owned.getD (h.last e.th) 0) e)⟩
def Fb (h:HS) (e:Ev):Int:=if e.kind=1 then h.out.length else if e.kind=13 then -1 else h.last e.th
def nJ:HS:=⟨fun _=>0,[],[]⟩
def gZ (h:HS) (i:Int):List Ev→HS
 | []=>h
 | e :: l=>gZ (dS h i e) (i+1) l
def Q9 (h:HS) (i:Int):List Ev→List Int
 | []=>[]
 | e :: l=>Fb h e :: Q9 (dS h i e) (i+1) l
theorem uu (e:Ev):∀ (l:List Ev) (h:HS) (i:Int),gZ h i (l++[e])=dS (gZ h i l) (i+l.length) e
 | [],h,i=>by simp[gZ]
 | x :: l,h,i=>by
  show gZ (dS h i x) (i+1) (l++[e])=_
  rw[uu e l]
  simp only[List.length_cons]
  show _=dS (gZ (dS h i x) (i+1) l) _ e
  congr 1
  omega
theorem DY (e:Ev):∀ (l:List Ev) (h:HS) (i:Int),Q9 h i (l++[e])=Q9 h i l++[Fb (gZ h i l) e]
 | [],h,i=>rfl
 | x :: l,h,i=>by
  show Fb h x :: Q9 (dS h i x) (i+1) (l++[e])=_
  rw[DY e l]
  rfl
theorem BX:∀ (l:List Ev) (h:HS) (i:Int),(Q9 h i l).length=l.length
 | [],h,i=>rfl
 | x :: l,h,i=>by
  show(Q9 (dS h i x) (i+1) l).length+1=_
  rw[BX l];rfl
def az (l:List Ev):HS:=gZ nJ 0 l
def Fa (l:List Ev):List Int:=Q9 nJ 0 l
theorem uo {l:List Ev} {k:Nat} (hk:k < l.length):az (l.take (k+1))=dS (az (l.take k)) k l[k]:=by
 have e:l.take (k+1)=l.take k++[l[k]]:=by rw[List.take_succ_eq_append_getElem hk]
 unfold az
 rw[e,uu,List.length_take,Nat.min_eq_left (Nat.le_of_lt hk),Int.zero_add]
theorem MF {l:List Ev} {k:Nat} (hk:k < l.length):Fa (l.take (k+1))=Fa (l.take k)++[Fb (az (l.take k)) l[k]]:=by
 have e:l.take (k+1)=l.take k++[l[k]]:=by rw[List.take_succ_eq_append_getElem hk]
 unfold Fa az
 rw[e,DY]
end Go.Proofs.YtcddlnmcjmhbcaaDoor
namespace Go.Proofs.YtcddlnmcjmhbcaaDoor
set_option linter.unusedVariables false
set_option linter.unusedSimpArgs false
def Uf (l:List (Int×Int)):Prop:=l.Pairwise fun p q=>p.1 < q.1
structure EY (T V clk n:Int) (a:aH):Prop where
 th:0≤a.th∧a.th < T
 tx:0≤a.tx
 from_:0≤a.from_∧a.from_ < n
 dI:a.dI=-1∨(a.from_≤a.dI∧a.dI < n)
 rv:0≤a.rv∧a.rv≤clk
 wv:0≤a.wv∧a.wv≤clk
 gt:a.wv≠0→a.rv < a.wv
 nc:a.com=false→a.wv=0
 nw:a.wv=0→a.writes=[]
 F9:∀ p∈a.reads,0≤p.1∧p.1 < V
 Fv:∀ p∈a.writes,0≤p.1∧p.1 < V
 up:Uf a.writes
theorem EY.mono {T V c c' n n':Int} {a:aH} (h:EY T V c n a) (hc:c≤c') (hn:n≤n'):EY T V c' n' a:=
 ⟨h.th,h.tx,by have:=h.from_;omega,by have:=h.dI;omega,by have:=h.rv;omega,by have:=h.wv;omega,h.gt,h.nc,h.nw,h.F9,h.Fv,h.up⟩
structure HT (t:Th) (a:aH) (o:Int):Prop where
 o:o=xA t.owned
 rv:a.rv=t.rv
 run:t.at_=1∨t.at_=2∨t.at_=3∨t.at_=4∨t.at_=7→a.dI=-1∧a.com=false∧t.aP=a.tx
 put:t.at_=5∨t.at_=6→a.dI=-1∧a.com=true∧a.wv=t.wv∧a.wv≠0∧t.aP=a.tx
 var:t.at_=5→∀ p∈a.writes,p.1≤t.var
 done:t.at_=0→a.dI≠-1∧t.aP=a.tx+if a.com=true then 1 else 0
 stop:t.at_=8∨t.at_=9→a.dI≠-1∧a.com=false∧t.aP=a.tx
structure HI (s:Sh) (h:HS) (n:Int):Prop where
 len:h.owned.length=h.out.length
 pos:0≤n
 vC:∀ (k:Nat) (a:aH),h.out[k]? =some a→EY s.aN.length s.vars s.clock n a
 pair:∀ (j k:Nat) (a b:aH),j < k→h.out[j]? =some a→h.out[k]? =some b→a.from_ < b.from_∧a.rv≤b.rv∧(a.dI≠-1→a.dI < b.from_→a.wv≤b.rv)∧(b.wv≠0→a.wv≠b.wv)∧(a.th=b.th→a.dI≠-1∧a.dI < b.from_)
 row:∀ (j k:Nat) (a b:aH),j < k→h.out[j]? =some a→h.out[k]? =some b→a.th=b.th→(∀ (m:Nat) (c:aH),j < m→m < k→h.out[m]? =some c→c.th≠b.th)→b.tx=a.tx+if a.com=true then 1 else 0
 row0:∀ (k:Nat) (b:aH),h.out[k]? =some b→(∀ (j:Nat) (a:aH),j < k→h.out[j]? =some a→a.th≠b.th)→b.tx=0
 LV:∀ i,i < s.aN.length→((∀ (m:Nat) (c:aH),h.out[m]? =some c→c.th≠(i:Int))∧(s.aN.getD i Th.zero).at_=0∧(s.aN.getD i Th.zero).aP=0)∨
  ∃ a o,h.out[h.last i]? =some a∧h.owned[h.last i]? =some o∧a.th=(i:Int)∧(∀ (m:Nat) (c:aH),h.last i < m→h.out[m]? =some c→c.th≠(i:Int))∧HT (s.aN.getD i Th.zero) a o
 pend:∀ i,i < s.aN.length→(s.aN.getD i Th.zero).at_=4→((s.aN.getD i Th.zero).wv≠0∧(s.aN.getD i Th.zero).rv < (s.aN.getD i Th.zero).wv)∧(∀ (k:Nat) (a:aH),h.out[k]? =some a→a.wv≠(s.aN.getD i Th.zero).wv)∧
  (∀ j,j < s.aN.length→j≠i→(s.aN.getD j Th.zero).at_=4→(s.aN.getD j Th.zero).wv≠(s.aN.getD i Th.zero).wv)
theorem bF {α:Type} {l:List α} {k j:Nat} {x y:α} (h:(l.set k x)[j]? =some y):(j=k∧y=x∧k < l.length)∨(j≠k∧l[j]? =some y):=by
 rw[List.getElem?_set]at h
 split at h
 ·rename_i he
  split at h
  ·cases h;exact .inl ⟨he.symm,rfl,by assumption⟩
  ·cases h
 ·rename_i he
  exact .inr ⟨fun e=>he e.symm,h⟩
theorem aU {α:Type} {l:List α} {j:Nat} {x y:α} (h:(l++[x])[j]? =some y):(j=l.length∧y=x)∨(j < l.length∧l[j]? =some y):=by
 rcases Nat.lt_trichotomy j l.length with hl | he | hg
 ·rw[List.getElem?_append_left hl]at h;exact .inr ⟨hl,h⟩
 ·subst he
  rw[List.getElem?_append_right (Nat.le_refl _),Nat.sub_self]at h
  cases h;exact .inl ⟨rfl,rfl⟩
 ·rw[List.getElem?_eq_none (by simp;omega)]at h;cases h
theorem HI.turn {s s':Sh} {h:HS} {n:Int} (hi:HI s h n) {th:Nat} {t':Th} {a a':aH} {o':Int} (hlt:th < s.aN.length) (kM:s'.aN=s.aN.set th t') (wH:s.clock≤s'.clock) (hv:s'.vars=s.vars)
  (ha:h.out[h.last th]? =some a) (GR:a.th=(th:Int)) (hlast:∀ (m:Nat) (c:aH),h.last th < m→h.out[m]? =some c→c.th≠(th:Int))
  (same:a'.th=a.th∧a'.tx=a.tx∧a'.from_=a.from_∧a'.rv=a.rv) (hto:a.dI=-1∧(a'.dI=-1∨a'.dI=n))
  (hwv:a'.wv=a.wv∨((s.aN.getD th Th.zero).at_=4∧a'.wv=(s.aN.getD th Th.zero).wv∧t'.at_≠4))
  (hok:EY s.aN.length s.vars s'.clock (n+1) a') (hHT:HT t' a' o')
  (hp:t'.at_=4→t'.rv=(s.aN.getD th Th.zero).rv∧(((s.aN.getD th Th.zero).at_=4∧t'.wv=(s.aN.getD th Th.zero).wv)∨s.clock < t'.wv))
  (qL:(s.aN.getD th Th.zero).rv≤s.clock) (hc0:0≤s.clock) (VB:∀ i,i < s.aN.length→(s.aN.getD i Th.zero).wv≤s.clock):
  HI s' ⟨h.last,h.out.set (h.last th) a',h.owned.set (h.last th) o'⟩ (n+1):=by
 obtain⟨s1,s2,s3,s4⟩:=same
 have hkl:h.last th < h.out.length:=(List.getElem?_eq_some_iff.1 ha).1
 have hT:s'.aN.length=s.aN.length:=by rw[kM,List.length_set]
 have IY:s'.aN.getD th Th.zero=t':=by rw[kM];exact aQ _ _ _ _ hlt
 have Dp:∀ i,i≠th→s'.aN.getD i Th.zero=s.aN.getD i Th.zero:=fun i hne=>by rw[kM];exact getD_set_ne _ _ _ _ _ (fun e=>hne e.symm)
 have hfr:=(hi.vC _ _ ha).from_
 constructor
 ·show(h.owned.set _ _).length=(h.out.set _ _).length
  rw[List.length_set,List.length_set];exact hi.len
 ·have:=hi.pos;omega
 ·intro k b hb
  rw[hT,hv]
  have CJ:=bF hb;clear hb
  rcases CJ with⟨rfl,rfl,_⟩ | ⟨_,hb⟩
  ·exact hok
  ·exact(hi.vC _ _ hb).mono wH (by omega)
 ·intro j k b c hjk hb hc
  have CJ:=bF hb;clear hb
  rcases CJ with⟨rfl,rfl,_⟩ | ⟨hne,hb⟩
  ·have xx:=bF hc;clear hc
   rcases xx with⟨rfl,rfl,_⟩ | ⟨_,hc⟩
   ·omega
   ·obtain⟨p1,p2,p3,p4,p5⟩:=hi.pair _ _ _ _ hjk ha hc
    have hcf:=(hi.vC _ _ hc).from_
    have Yh:c.th≠(th:Int):=hlast _ _ hjk hc
    refine⟨by rw[s3];exact p1,by rw[s4];exact p2,fun h1 h2=>by omega,fun h1=>?_,fun h1=>absurd (by rw[←h1,s1];exact GR) Yh⟩
    rcases hwv with e | ⟨e1,e2,e3⟩
    ·rw[e];exact p4 h1
    ·rw[e2];exact fun e=>((hi.pend th hlt e1).2.1 _ _ hc) e.symm
  ·have xx:=bF hc;clear hc
   rcases xx with⟨rfl,rfl,_⟩ | ⟨_,hc⟩
   ·obtain⟨p1,p2,p3,p4,p5⟩:=hi.pair _ _ _ _ hjk hb ha
    refine⟨by rw[s3];exact p1,by rw[s4];exact p2,by rw[s3,s4];exact p3,fun h1=>?_,by rw[s1,s3];exact p5⟩
    rcases hwv with e | ⟨e1,e2,e3⟩
    ·rw[e]at h1⊢;exact p4 h1
    ·rw[e2];exact(hi.pend th hlt e1).2.1 _ _ hb
   ·exact hi.pair _ _ _ _ hjk hb hc
 ·intro j k b c hjk hb hc hbc hm
  have hm':∀ (m:Nat) (d:aH),j < m→m < k→h.out[m]? =some d→d.th≠c.th:=by
   intro m d h1 h2 hd
   by_cases he:m=h.last th
   ·subst he
    rw[ha]at hd
    cases hd
    have:=hm _ a' h1 h2 (by rw[List.getElem?_set_self hkl])
    rw[s1]at this
    exact this
   ·exact hm _ _ h1 h2 (by rw[List.getElem?_set_ne (fun e=>he e.symm)];exact hd)
  have CJ:=bF hb;clear hb
  rcases CJ with⟨rfl,rfl,_⟩ | ⟨hne,hb⟩
  ·have xx:=bF hc;clear hc
   rcases xx with⟨rfl,rfl,_⟩ | ⟨_,hc⟩
   ·omega
   ·exact absurd (by rw[←hbc,s1];exact GR) (hlast _ _ hjk hc)
  ·have xx:=bF hc;clear hc
   rcases xx with⟨rfl,rfl,_⟩ | ⟨_,hc⟩
   ·rw[s2]
    exact hi.row _ _ _ _ hjk hb ha (by rw[hbc,s1]) (by rw[s1]at hm';exact hm')
   ·exact hi.row _ _ _ _ hjk hb hc hbc hm'
 ·intro k c hc hm
  have hm':∀ (j:Nat) (d:aH),j < k→h.out[j]? =some d→d.th≠c.th:=by
   intro m d h1 hd
   by_cases he:m=h.last th
   ·subst he
    rw[ha]at hd
    cases hd
    have:=hm _ a' h1 (by rw[List.getElem?_set_self hkl])
    rw[s1]at this
    exact this
   ·exact hm _ _ h1 (by rw[List.getElem?_set_ne (fun e=>he e.symm)];exact hd)
  have xx:=bF hc;clear hc
  rcases xx with⟨rfl,rfl,_⟩ | ⟨_,hc⟩
  ·rw[s2];exact hi.row0 _ _ ha (by rw[s1]at hm';exact hm')
  ·exact hi.row0 _ _ hc hm'
 ·intro i hil
  rw[hT]at hil
  by_cases he:i=th
  ·subst he
   refine .inr ⟨a',o',List.getElem?_set_self hkl,List.getElem?_set_self (by rw[hi.len];exact hkl),by rw[s1];exact GR,?_,by rw[IY];exact hHT⟩
   intro m c hm hc
   have hm:h.last (i:Int) < m:=hm
   have xx:=bF hc;clear hc
   rcases xx with⟨rfl,rfl,_⟩ | ⟨_,hc⟩
   ·rw[s1];omega
   ·exact hlast _ _ hm hc
  ·rw[Dp i he]
   have hsame:∀ (m:Nat) (c:aH),(h.out.set (h.last th) a')[m]? =some c→∃ c0,h.out[m]? =some c0∧c0.th=c.th:=by
    intro m c hc
    have xx:=bF hc;clear hc
    rcases xx with⟨rfl,rfl,_⟩ | ⟨_,hc⟩
    ·exact⟨a,ha,s1.symm⟩
    ·exact⟨c,hc,rfl⟩
   rcases hi.LV i hil with⟨h1,h2⟩ | ⟨b,o,h1,h2,h3,h4,h5⟩
   ·refine .inl ⟨fun m c hc=>?_,h2⟩
    obtain⟨c0,hc0,e⟩:=hsame m c hc
    rw[←e];exact h1 _ _ hc0
   ·have hne:h.last th≠h.last i:=by
     intro e
     rw[←e,ha]at h1
     cases h1
     omega
    refine .inr ⟨b,o,by rw[List.getElem?_set_ne hne];exact h1,by rw[List.getElem?_set_ne hne];exact h2,h3,fun m c hm hc=>?_,h5⟩
    obtain⟨c0,hc0,e⟩:=hsame m c hc
    rw[←e];exact h4 _ _ hm hc0
 ·intro i hil h4
  rw[hT]at hil
  have hwa:∀ (k:Nat) (b:aH),(h.out.set (h.last th) a')[k]? =some b→(∃ b0,h.out[k]? =some b0∧b0.wv=b.wv)∨((s.aN.getD th Th.zero).at_=4∧b.wv=(s.aN.getD th Th.zero).wv∧t'.at_≠4):=by
   intro k b hb
   have CJ:=bF hb;clear hb
   rcases CJ with⟨rfl,rfl,_⟩ | ⟨_,hb⟩
   ·rcases hwv with e | e
    ·exact .inl ⟨a,ha,e.symm⟩
    ·exact .inr e
   ·exact .inl ⟨b,hb,rfl⟩
  by_cases he:i=th
  ·subst he
   rw[IY]at h4⊢
   obtain⟨e1,e2⟩:=hp h4
   have hout:∀ (k:Nat) (b:aH),(h.out.set (h.last i) a')[k]? =some b→∃ b0,h.out[k]? =some b0∧b0.wv=b.wv:=fun k b hb=>by
    rcases hwa k b hb with e | ⟨_,_,e⟩
    ·exact e
    ·exact absurd h4 e
   rcases e2 with⟨f1,f2⟩ | f
   ·obtain⟨g1,g2,g3⟩:=hi.pend i hlt f1
    rw[e1,f2]
    refine⟨g1,fun k b hb=>?_,fun j hj hji Dn=>?_⟩
    ·obtain⟨b0,hb0,e⟩:=hout k b hb
     rw[←e];exact g2 _ _ hb0
    ·rw[hT]at hj
     rw[Dp j hji]at Dn⊢
     exact g3 j hj hji Dn
   ·refine⟨⟨by omega,by omega⟩,fun k b hb=>?_,fun j hj hji Dn=>?_⟩
    ·obtain⟨b0,hb0,e⟩:=hout k b hb
     have:=(hi.vC _ _ hb0).wv
     omega
    ·rw[hT]at hj
     rw[Dp j hji]
     have:=VB j hj
     omega
  ·rw[Dp i he]at h4⊢
   obtain⟨g1,g2,g3⟩:=hi.pend i hil h4
   refine⟨g1,fun k b hb=>?_,fun j hj hji Dn=>?_⟩
   ·rcases hwa k b hb with⟨b0,hb0,e⟩ | ⟨f1,f2,f3⟩
    ·rw[←e];exact g2 _ _ hb0
    ·rw[f2];exact g3 th hlt (fun e=>he e.symm) f1
   ·rw[hT]at hj
    by_cases hj2:j=th
    ·subst hj2
     rw[IY]at Dn⊢
     obtain⟨_,⟨f1,f2⟩ | f⟩:=hp Dn
     ·rw[f2];exact g3 j hj hji f1
     ·have:=VB i hil
      omega
    ·rw[Dp j hj2]at Dn⊢
     exact g3 j hj hji Dn
theorem HI.begin {s s':Sh} {h:HS} {n:Int} (hi:HI s h n) {th:Nat} {t':Th} {e:Ev} (bY:e.th=(th:Int)) (hlt:th < s.aN.length) (kM:s'.aN=s.aN.set th t') (wH:s'.clock=e.v) (hge:s.clock≤e.v) (hc0:0≤s.clock) (hv:s'.vars=s.vars)
  (h0:(s.aN.getD th Th.zero).at_=0) (htx:e.tx=(s.aN.getD th Th.zero).aP) (Yg:0≤e.tx) (ht':t'=⟨1,(s.aN.getD th Th.zero).aP,e.v,0,0,0,0,0,0,0,-1,-1,false⟩):
  HI s' ⟨oW h.last e.th h.out.length,h.out++[kY e n],h.owned++[0]⟩ (n+1):=by
 have hT:s'.aN.length=s.aN.length:=by rw[kM,List.length_set]
 have IY:s'.aN.getD th Th.zero=t':=by rw[kM];exact aQ _ _ _ _ hlt
 have Dp:∀ i,i≠th→s'.aN.getD i Th.zero=s.aN.getD i Th.zero:=fun i hne=>by rw[kM];exact getD_set_ne _ _ _ _ _ (fun e=>hne e.symm)
 have hpos:=hi.pos
 have XZ:oW h.last e.th h.out.length (th:Int)=h.out.length:=by unfold oW;rw[if_pos bY.symm]
 have XY:∀ i:Nat,i≠th→oW h.last e.th h.out.length (i:Int)=h.last (i:Int):=fun i hne=>by unfold oW;rw[if_neg (by omega)]
 have TC:∀ (j:Nat) (a:aH),h.out[j]? =some a→a.th=(th:Int)→a.dI≠-1∧a.dI < n:=by
  intro j a ha GR
  rcases hi.LV th hlt with⟨h1,_⟩ | ⟨b,o,h1,h2,h3,h4,h5⟩
  ·exact absurd GR (h1 _ _ ha)
  ·have hd:=h5.done h0
   have hbk:=hi.vC _ _ h1
   rcases Nat.lt_trichotomy j (h.last th)with hl | he | hg
   ·have hp:=(hi.pair _ _ _ _ hl ha h1).2.2.2.2 (by rw[GR,h3])
    have:=hbk.from_
    exact⟨hp.1,by omega⟩
   ·subst he
    rw[h1]at ha
    cases ha
    have:=hbk.dI
    refine⟨hd.1,?_⟩
    rcases this with e | e
    ·exact absurd e hd.1
    ·exact e.2
   ·exact absurd GR (h4 _ _ hg ha)
 constructor
 ·show(h.owned++[0]).length=(h.out++[kY e n]).length
  rw[List.length_append,List.length_append,hi.len];rfl
 ·omega
 ·intro k b hb
  rw[hT,hv,wH]
  have CJ:=aU hb;clear hb
  rcases CJ with⟨rfl,rfl⟩ | ⟨_,hb⟩
  ·refine⟨by show 0≤e.th∧e.th < _;omega,Yg,by show 0≤n∧n < n+1;omega,.inl rfl,by show 0≤e.v∧e.v≤e.v;omega,by show(0:Int)≤0∧(0:Int)≤e.v;omega,fun h=>absurd rfl h,fun _=>rfl,fun _=>rfl,fun p hp=>?_,fun p hp=>?_,List.Pairwise.nil⟩
   ·exact absurd hp (List.not_mem_nil)
   ·exact absurd hp (List.not_mem_nil)
  ·exact(hi.vC _ _ hb).mono hge (by omega)
 ·intro j k b c hjk hb hc
  have xx:=aU hc;clear hc
  rcases xx with⟨rfl,rfl⟩ | ⟨hk,hc⟩
  ·have CJ:=aU hb;clear hb
   rcases CJ with⟨rfl,rfl⟩ | ⟨hj,hb⟩
   ·omega
   ·have hbk:=hi.vC _ _ hb
    have b1:=hbk.from_
    have b2:=hbk.rv
    have b3:=hbk.wv
    refine⟨by show b.from_ < n;omega,by show b.rv≤e.v;omega,fun _ _=>by show b.wv≤e.v;omega,fun h=>absurd rfl h,fun h=>?_⟩
    exact TC _ _ hb (by rw[h];exact bY)
  ·have CJ:=aU hb;clear hb
   rcases CJ with⟨rfl,rfl⟩ | ⟨hj,hb⟩
   ·omega
   ·exact hi.pair _ _ _ _ hjk hb hc
 ·intro j k b c hjk hb hc hbc hm
  have xx:=aU hc;clear hc
  rcases xx with⟨rfl,rfl⟩ | ⟨hk,hc⟩
  ·have CJ:=aU hb;clear hb
   rcases CJ with⟨rfl,rfl⟩ | ⟨hj,hb⟩
   ·omega
   ·have VU:b.th=(th:Int):=by rw[hbc];exact bY
    rcases hi.LV th hlt with⟨h1,_⟩ | ⟨d,o,h1,h2,h3,h4,h5⟩
    ·exact absurd VU (h1 _ _ hb)
    ·rcases Nat.lt_trichotomy j (h.last th)with hl | he | hg
     ·have hdl:=(List.getElem?_eq_some_iff.1 h1).1
      exact absurd (by rw[h3];exact bY.symm) (hm _ d hl hdl (by rw[List.getElem?_append_left hdl];exact h1))
     ·subst he
      rw[h1]at hb
      cases hb
      show e.tx=_
      rw[htx]
      exact(h5.done h0).2
     ·exact absurd VU (h4 _ _ hg hb)
  ·have CJ:=aU hb;clear hb
   rcases CJ with⟨rfl,rfl⟩ | ⟨hj,hb⟩
   ·omega
   ·exact hi.row _ _ _ _ hjk hb hc hbc (fun m d h1 h2 hd=>hm m d h1 h2 (by rw[List.getElem?_append_left (by omega)];exact hd))
 ·intro k c hc hm
  have xx:=aU hc;clear hc
  rcases xx with⟨rfl,rfl⟩ | ⟨hk,hc⟩
  ·show e.tx=0
   rcases hi.LV th hlt with⟨_,_,h1⟩ | ⟨d,o,h1,h2,h3,h4,h5⟩
   ·rw[htx,h1]
   ·have hdl:=(List.getElem?_eq_some_iff.1 h1).1
    exact absurd (by rw[h3];exact bY.symm) (hm _ d hdl (by rw[List.getElem?_append_left hdl];exact h1))
  ·exact hi.row0 _ _ hc (fun j a hj ha=>hm j a hj (by rw[List.getElem?_append_left (by omega)];exact ha))
 ·intro i hil
  rw[hT]at hil
  by_cases he:i=th
  ·subst he
   refine .inr ⟨kY e n,0,?_,?_,bY,?_,?_⟩
   ·show(h.out++[kY e n])[oW h.last e.th h.out.length (i:Int)]? =_
    rw[XZ,List.getElem?_append_right (Nat.le_refl _),Nat.sub_self];rfl
   ·show(h.owned++[0])[oW h.last e.th h.out.length (i:Int)]? =_
    rw[XZ,←hi.len,List.getElem?_append_right (Nat.le_refl _),Nat.sub_self];rfl
   ·intro m c hm hc
    have hm':oW h.last e.th h.out.length (i:Int) < m:=hm
    rw[XZ]at hm'
    have xx:=aU hc;clear hc
    rcases xx with⟨rfl,rfl⟩ | ⟨hk,hc⟩ <;> omega
   ·rw[IY,ht']
    refine⟨?_,rfl,fun _=>⟨rfl,rfl,htx.symm⟩,fun h=>?_,fun h=>?_,fun h=>?_,fun h=>?_⟩
    ·show(0:Int)=xA 0
     rw[(jA (m:=0) (by decide)).2 rfl];rfl
    ·dsimp only at h;omega
    ·dsimp only at h;omega
    ·dsimp only at h;omega
    ·dsimp only at h;omega
  ·rw[Dp i he]
   rcases hi.LV i hil with⟨h1,h2⟩ | ⟨b,o,h1,h2,h3,h4,h5⟩
   ·refine .inl ⟨fun m c hc=>?_,h2⟩
    have xx:=aU hc;clear hc
    rcases xx with⟨rfl,rfl⟩ | ⟨hk,hc⟩
    ·show e.th≠_;omega
    ·exact h1 _ _ hc
   ·have hbl:=(List.getElem?_eq_some_iff.1 h1).1
    refine .inr ⟨b,o,?_,?_,h3,fun m c hm hc=>?_,h5⟩
    ·show(h.out++[kY e n])[oW h.last e.th h.out.length (i:Int)]? =_
     rw[XY i he,List.getElem?_append_left hbl];exact h1
    ·show(h.owned++[0])[oW h.last e.th h.out.length (i:Int)]? =_
     rw[XY i he,List.getElem?_append_left (by rw[hi.len];exact hbl)];exact h2
    ·have hm':oW h.last e.th h.out.length (i:Int) < m:=hm
     rw[XY i he]at hm'
     have xx:=aU hc;clear hc
     rcases xx with⟨rfl,rfl⟩ | ⟨hk,hc⟩
     ·show e.th≠_;omega
     ·exact h4 _ _ hm' hc
 ·intro i hil h4
  rw[hT]at hil
  by_cases he:i=th
  ·subst he
   rw[IY,ht']at h4
   dsimp only at h4
   omega
  ·rw[Dp i he]at h4⊢
   obtain⟨g1,g2,g3⟩:=hi.pend i hil h4
   refine⟨g1,fun k b hb=>?_,fun j hj hji Dn=>?_⟩
   ·have CJ:=aU hb;clear hb
    rcases CJ with⟨rfl,rfl⟩ | ⟨hk,hb⟩
    ·show(0:Int)≠_
     exact fun e=>g1.1 e.symm
    ·exact g2 _ _ hb
   ·rw[hT]at hj
    by_cases hj2:j=th
    ·subst hj2
     rw[IY,ht']at Dn
     dsimp only at Dn
     omega
    ·rw[Dp j hj2]at Dn⊢
     exact g3 j hj hji Dn
theorem HI.wake {s s':Sh} {h:HS} {n:Int} (hi:HI s h n) {th:Nat} {t':Th} (hlt:th < s.aN.length) (kM:s'.aN=s.aN.set th t') (wH:s'.clock=s.clock) (hv:s'.vars=s.vars)
  (h8:(s.aN.getD th Th.zero).at_=8) (ht':t'={ s.aN.getD th Th.zero with at_:=0 }):HI s' h (n+1):=by
 have hT:s'.aN.length=s.aN.length:=by rw[kM,List.length_set]
 have IY:s'.aN.getD th Th.zero=t':=by rw[kM];exact aQ _ _ _ _ hlt
 have Dp:∀ i,i≠th→s'.aN.getD i Th.zero=s.aN.getD i Th.zero:=fun i hne=>by rw[kM];exact getD_set_ne _ _ _ _ _ (fun e=>hne e.symm)
 refine⟨hi.len,by have:=hi.pos;omega,fun k b hb=>?_,hi.pair,hi.row,hi.row0,fun i hil=>?_,fun i hil h4=>?_⟩
 ·rw[hT,hv,wH];exact(hi.vC _ _ hb).mono (Int.le_refl _) (by omega)
 ·rw[hT]at hil
  by_cases he:i=th
  ·subst he
   rcases hi.LV i hil with⟨_,h2,_⟩ | ⟨b,o,h1,h2,h3,h4,h5⟩
   ·omega
   ·obtain⟨q1,q2,q3⟩:=h5.stop (.inl h8)
    refine .inr ⟨b,o,h1,h2,h3,h4,?_⟩
    rw[IY,ht']
    refine⟨h5.o,h5.rv,fun h=>?_,fun h=>?_,fun h=>?_,fun _=>⟨q1,by rw[q2];show(s.aN.getD i Th.zero).aP=_;rw[q3];simp⟩,fun h=>?_⟩
    ·dsimp only at h;omega
    ·dsimp only at h;omega
    ·dsimp only at h;omega
    ·dsimp only at h;omega
  ·rw[Dp i he];exact hi.LV i hil
 ·rw[hT]at hil
  by_cases he:i=th
  ·subst he
   rw[IY,ht']at h4
   dsimp only at h4
   omega
  ·rw[Dp i he]at h4⊢
   obtain⟨g1,g2,g3⟩:=hi.pend i hil h4
   refine⟨g1,g2,fun j hj hji Dn=>?_⟩
   rw[hT]at hj
   by_cases hj2:j=th
   ·subst hj2
    rw[IY,ht']at Dn
    dsimp only at Dn
    omega
   ·rw[Dp j hj2]at Dn⊢
    exact g3 j hj hji Dn
end Go.Proofs.YtcddlnmcjmhbcaaDoor
namespace Go.Proofs.YtcddlnmcjmhbcaaDoor
set_option linter.unusedVariables false
set_option linter.unusedSimpArgs false
theorem dD {α:Type} {l:List α} {k:Nat} {x d:α} (h:l[k]? =some x):l.getD k d=x:=by
 rw[List.getD_eq_getElem?_getD,h];rfl
theorem hi_new (T V S:Int):HI (fF T V S) nJ 0:=by
 refine⟨rfl,Int.le_refl _,fun k a h=>?_,fun j k a b _ h=>?_,fun j k a b _ h=>?_,fun k b h=>?_,fun i hi=>.inl ⟨fun m c h=>?_,?_,?_⟩,fun i hi h4=>?_⟩
 ·simp[nJ]at h
 ·simp[nJ]at h
 ·simp[nJ]at h
 ·simp[nJ]at h
 ·simp[nJ]at h
 ·have:(fF T V S).aN.getD i Th.zero=Th.zero:=by
   simp only[fF,List.getD_eq_getElem?_getD]
   rw[List.getElem?_replicate];split <;> rfl
  rw[this];rfl
 ·have:(fF T V S).aN.getD i Th.zero=Th.zero:=by
   simp only[fF,List.getD_eq_getElem?_getD]
   rw[List.getElem?_replicate];split <;> rfl
  rw[this];rfl
 ·have:(fF T V S).aN.getD i Th.zero=Th.zero:=by
   simp only[fF,List.getD_eq_getElem?_getD]
   rw[List.getElem?_replicate];split <;> rfl
  rw[this]at h4
  exact absurd h4 (by decide)
theorem HI.mine {s:Sh} {h:HS} {n:Int} (hi:HI s h n) {th:Nat} (hlt:th < s.aN.length) (h0:(s.aN.getD th Th.zero).at_≠0):
  ∃ a o,h.out[h.last th]? =some a∧h.owned[h.last th]? =some o∧a.th=(th:Int)∧(∀ (m:Nat) (c:aH),h.last th < m→h.out[m]? =some c→c.th≠(th:Int))∧HT (s.aN.getD th Th.zero) a o:=by
 rcases hi.LV th hlt with⟨_,h1,_⟩ | h
 ·exact absurd h1 h0
 ·exact h
theorem gm {h:HS} {n:Int} {e:Ev} {th:Nat} {a:aH} {o:Int} (bY:e.th=(th:Int)) (k1:e.kind≠1) (k13:e.kind≠13) (ha:h.out[h.last th]? =some a) (ho:h.owned[h.last th]? =some o):
  dS h n e=⟨h.last,h.out.set (h.last th) (bK a o e n),h.owned.set (h.last th) (dY o e)⟩:=by
 unfold dS
 rw[if_neg k1,if_neg k13,bY,dD ha,dD ho]
theorem IW {s s':Sh} {h:HS} {n:Int} {e:Ev} (hw:Wf s) (hi:HI s h n) (hs:stepS s e=some s'):HI s' (dS h n e) (n+1):=by
 obtain⟨th,bY,htn,hlt,hm,hk,hat,o9,hmod,hv,hd⟩:=pI hw hs
 have R:∀ (q:Sh) (t':Th),q.aN=s.aN→(q.aI e.th t').aN=s.aN.set th t':=by intro q t' h1;simp only[Sh.aI,h1,htn]
 have wt:=hw.th th hlt
 have E5:∀ i,i < s.aN.length→(s.aN.getD i Th.zero).wv≤s.clock:=fun i hi=>(hw.th i hi).Jm.2
 have qL:=wt.Lh.2
 have hc0:=hw.clk.1
 have hn0:=hi.pos
 have hsz:=hw.size
 have hsn:s.n=s.aX.length:=rfl
 have mine:=fun h0=>hi.mine (th:=th) hlt h0
 have hpd:=hi.pend th hlt
 have turn:=fun{s':Sh} {t':Th} {a a':aH} {o':Int}=>hi.turn (s':=s') (t':=t') (a:=a) (a':=a') (o':=o') hlt
 obtain⟨t,ht⟩:∃ t,t=s.aN.getD th Th.zero:=⟨_,rfl⟩
 rw[←ht]at hd wt qL mine hpd turn
 unfold nZ at hd
 by_cases k1:e.kind=1
 ·rw[if_pos k1]at hd
  unfold iU at hd;split at hd
  case isFalse=>cases hd
  rename_i hc
  cases hd
  unfold dS
  rw[if_pos k1]
  exact hi.begin bY hlt (R _ _ rfl) rfl hc.2.2 hc0 rfl (by rw[←ht];exact hc.1) (by rw[←ht];exact hc.2.1) (oI hm).2.2.1.1 (by rw[←ht])
 rw[if_neg k1]at hd
 by_cases k2:e.kind=2
 ·rw[if_pos k2]at hd
  unfold lJ at hd;split at hd
  case isFalse=>cases hd
  rename_i hc
  cases hd
  obtain⟨a,o,h1,h2,h3,h4,h5⟩:=mine (by omega)
  have hA:bK a o e n=a:=by unfold bK;rw[if_neg (by omega),if_neg (by omega),if_neg (by omega),if_neg (by omega),if_neg (by omega),if_neg (by omega)]
  have hO:dY o e=o:=by unfold dY;rw[if_neg (by omega),if_neg (by omega)]
  rw[gm bY k1 (by omega) h1 h2,hA,hO]
  have hr:=h5.run (.inl hc.1)
  exact turn (R (s.setSt e.at_ (-1,e.v)) _ rfl) (Int.le_refl _) rfl h1 h3 h4 ⟨rfl,rfl,rfl,rfl⟩ ⟨hr.1,.inl hr.1⟩ (.inl rfl) ((hi.vC _ _ h1).mono (Int.le_refl _) (by omega))
   ⟨h5.o,h5.rv,fun _=>hr,fun h=>by dsimp only at h;omega,fun h=>by dsimp only at h;omega,fun h=>by dsimp only at h;omega,fun h=>by dsimp only at h;omega⟩ (fun h=>by dsimp only at h;omega) qL hc0 E5
 rw[if_neg k2]at hd
 by_cases k3:e.kind=3
 ·rw[if_pos k3]at hd
  unfold lK at hd;split at hd
  case isFalse=>cases hd
  rename_i hc
  cases hd
  obtain⟨a,o,h1,h2,h3,h4,h5⟩:=mine (by omega)
  have hA:bK a o e n={ a with reads:=a.reads++[(e.at_,e.x)] }:=by unfold bK;rw[if_pos k3]
  have hO:dY o e=o:=by unfold dY;rw[if_neg (by omega),if_neg (by omega)]
  rw[gm bY k1 (by omega) h1 h2,hA,hO]
  have hr:=h5.run (.inr (.inl hc.1))
  have ok:=(hi.vC _ _ h1).mono (Int.le_refl s.clock) (show n≤n+1 by omega)
  exact turn (R s _ rfl) (Int.le_refl _) rfl h1 h3 h4 ⟨rfl,rfl,rfl,rfl⟩ ⟨hr.1,.inl hr.1⟩ (.inl rfl)
   ⟨ok.th,ok.tx,ok.from_,ok.dI,ok.rv,ok.wv,ok.gt,ok.nc,ok.nw,fun p hp=>by
    rcases List.mem_append.1 hp with hp | hp
    ·exact ok.F9 p hp
    ·rw[List.mem_singleton]at hp;subst hp;exact⟨hat.1,hat.2.1⟩,ok.Fv,ok.up⟩
   ⟨h5.o,h5.rv,fun _=>hr,fun h=>by dsimp only at h;omega,fun h=>by dsimp only at h;omega,fun h=>by dsimp only at h;omega,fun h=>by dsimp only at h;omega⟩ (fun h=>by dsimp only at h;omega) qL hc0 E5
 rw[if_neg k3]at hd
 by_cases k4:e.kind=4
 ·rw[if_pos k4]at hd
  unfold mF at hd;split at hd
  case isFalse=>cases hd
  rename_i hc
  cases hd
  obtain⟨a,o,h1,h2,h3,h4,h5⟩:=mine (by omega)
  obtain⟨b1,b2⟩:=o9 (by omega) (by omega)
  have hA:bK a o e n=a:=by unfold bK;rw[if_neg (by omega),if_neg (by omega),if_neg (by omega),if_neg (by omega),if_neg (by omega),if_neg (by omega)]
  have hO:dY o e=o+1:=by unfold dY;rw[if_pos k4]
  rw[gm bY k1 (by omega) h1 h2,hA,hO]
  have hr:=h5.run (by omega)
  have hbit:t.owned.testBit e.at_.toNat=false:=by
   cases hb:t.owned.testBit e.at_.toNat with
   | false=>rfl
   | true=>
    have:=(wt.own _ hb).2
    have h':=hc.2.2
    rw[uN]at h'
    omega
  have hcnt:=NV hbit (by omega)
  exact turn (R (s.setSt e.at_ (e.th,s.jD e.at_)) _ rfl) (Int.le_refl _) rfl h1 h3 h4 ⟨rfl,rfl,rfl,rfl⟩ ⟨hr.1,.inl hr.1⟩ (.inl rfl) ((hi.vC _ _ h1).mono (Int.le_refl _) (by omega))
   ⟨by have:=h5.o;dsimp only;omega,h5.rv,fun _=>hr,fun h=>by dsimp only at h;omega,fun h=>by dsimp only at h;omega,fun h=>by dsimp only at h;omega,fun h=>by dsimp only at h;omega⟩ (fun h=>by dsimp only at h;omega) qL hc0 E5
 rw[if_neg k4]at hd
 by_cases k5:e.kind=5
 ·rw[if_pos k5]at hd
  unfold kR at hd;split at hd
  case isFalse=>cases hd
  rename_i hc
  cases hd
  obtain⟨a,o,h1,h2,h3,h4,h5⟩:=mine (by omega)
  have hA:bK a o e n=a:=by unfold bK;rw[if_neg (by omega),if_neg (by omega),if_neg (by omega),if_neg (by omega),if_neg (by omega),if_neg (by omega)]
  have hO:dY o e=o:=by unfold dY;rw[if_neg (by omega),if_neg (by omega)]
  rw[gm bY k1 (by omega) h1 h2,hA,hO]
  have hr:=h5.run (by omega)
  exact turn (R { s with clock:=e.v } _ rfl) (Int.le_of_lt hc.2) rfl h1 h3 h4 ⟨rfl,rfl,rfl,rfl⟩ ⟨hr.1,.inl hr.1⟩ (.inl rfl) ((hi.vC _ _ h1).mono (Int.le_of_lt hc.2) (by omega))
   ⟨h5.o,h5.rv,fun _=>hr,fun h=>by dsimp only at h;omega,fun h=>by dsimp only at h;omega,fun h=>by dsimp only at h;omega,fun h=>by dsimp only at h;omega⟩ (fun _=>⟨rfl,.inr hc.2⟩) qL hc0 E5
 rw[if_neg k5]at hd
 by_cases k6:e.kind=6
 ·rw[if_pos k6]at hd
  unfold ji at hd;split at hd
  case isFalse=>cases hd
  rename_i hc
  cases hd
  obtain⟨a,o,h1,h2,h3,h4,h5⟩:=mine (by omega)
  have hA:bK a o e n=a:=by unfold bK;rw[if_neg (by omega),if_neg (by omega),if_neg (by omega),if_neg (by omega),if_neg (by omega),if_neg (by omega)]
  have hO:dY o e=o:=by unfold dY;rw[if_neg (by omega),if_neg (by omega)]
  rw[gm bY k1 (by omega) h1 h2,hA,hO]
  have hr:=h5.run (by omega)
  exact turn (R s _ rfl) (Int.le_refl _) rfl h1 h3 h4 ⟨rfl,rfl,rfl,rfl⟩ ⟨hr.1,.inl hr.1⟩ (.inl rfl) ((hi.vC _ _ h1).mono (Int.le_refl _) (by omega))
   ⟨h5.o,h5.rv,fun _=>hr,fun h=>by have:=hc.1;dsimp only at h;omega,fun h=>by have:=hc.1;dsimp only at h;omega,fun h=>by have:=hc.1;dsimp only at h;omega,fun h=>by have:=hc.1;dsimp only at h;omega⟩ (fun _=>⟨rfl,.inl ⟨hc.1,rfl⟩⟩) qL hc0 E5
 rw[if_neg k6]at hd
 by_cases k7:e.kind=7
 ·rw[if_pos k7]at hd
  have hA:∀ a o,bK a o e n={ a with com:=true,wv:=e.v,dI:=if o=0 then n else a.dI }:=fun a o=>by unfold bK;rw[if_neg (by omega),if_neg (by omega),if_pos k7]
  have hO:∀ o,dY o e=o:=fun o=>by unfold dY;rw[if_neg (by omega),if_neg (by omega)]
  unfold eu at hd;split at hd
  ·rename_i hc
   cases hd
   obtain⟨a,o,h1,h2,h3,h4,h5⟩:=mine (by omega)
   rw[gm bY k1 (by omega) h1 h2,hA,hO]
   have hr:=h5.run (by omega)
   have ho:o=0:=by rw[h5.o,wt.idle (by omega),(jA (m:=0) (by decide)).2 rfl];rfl
   rw[if_pos ho,hc.1]
   have ok:=(hi.vC _ _ h1).mono (Int.le_refl s.clock) (show n≤n+1 by omega)
   have hwv:=ok.nc hr.2.1
   have hfr:=(hi.vC _ _ h1).from_
   exact turn (R s _ rfl) (Int.le_refl _) rfl h1 h3 h4 ⟨rfl,rfl,rfl,rfl⟩ ⟨hr.1,.inr rfl⟩ (.inl hwv.symm)
    ⟨ok.th,ok.tx,ok.from_,.inr ⟨by dsimp only;omega,by dsimp only;omega⟩,ok.rv,⟨Int.le_refl _,hc0⟩,fun h=>absurd rfl h,fun _=>rfl,fun _=>ok.nw hwv,ok.F9,ok.Fv,ok.up⟩
    ⟨h5.o,h5.rv,fun h=>by dsimp only at h;omega,fun h=>by dsimp only at h;omega,fun h=>by dsimp only at h;omega,fun _=>⟨by dsimp only;omega,by dsimp only;rw[if_pos rfl,hr.2.2]⟩,fun h=>by dsimp only at h;omega⟩ (fun h=>by dsimp only at h;omega) qL hc0 E5
  ·split at hd
   case isFalse=>cases hd
   rename_i hc
   cases hd
   obtain⟨a,o,h1,h2,h3,h4,h5⟩:=mine (by omega)
   rw[gm bY k1 (by omega) h1 h2,hA,hO]
   have hr:=h5.run (by omega)
   have ho:o≠0:=by
    intro e0
    have:=h5.o
    rw[e0]at this
    exact wt.busy (by omega) ((jA wt.m2).1 (by omega))
   rw[if_neg ho]
   have ok:=(hi.vC _ _ h1).mono (Int.le_refl s.clock) (show n≤n+1 by omega)
   have hwv:=ok.nc hr.2.1
   have Xw:=hpd (by omega)
   have hwb:=wt.Jm
   have hrr:=h5.rv
   exact turn (R s _ rfl) (Int.le_refl _) rfl h1 h3 h4 ⟨rfl,rfl,rfl,rfl⟩ ⟨hr.1,.inl hr.1⟩ (.inr ⟨by omega,hc.2.2.2,by dsimp only;omega⟩)
    ⟨ok.th,ok.tx,ok.from_,ok.dI,ok.rv,⟨by dsimp only;omega,by show e.v≤s.clock;omega⟩,(fun _=>by dsimp only;omega),(fun h=>by cases h),fun h=>absurd h hc.1,ok.F9,ok.Fv,ok.up⟩
    ⟨h5.o,h5.rv,fun h=>by dsimp only at h;omega,fun _=>⟨hr.1,rfl,hc.2.2.2,hc.1,hr.2.2⟩,fun _ p hp=>by dsimp only at hp;rw[ok.nw hwv]at hp;exact absurd hp (List.not_mem_nil),fun h=>by dsimp only at h;omega,fun h=>by dsimp only at h;omega⟩ (fun h=>by dsimp only at h;omega) qL hc0 E5
 rw[if_neg k7]at hd
 by_cases k8:e.kind=8
 ·rw[if_pos k8]at hd
  unfold jb at hd;split at hd
  case isFalse=>cases hd
  rename_i hc
  cases hd
  obtain⟨a,o,h1,h2,h3,h4,h5⟩:=mine (by omega)
  have hA:bK a o e n={ a with writes:=a.writes++[(e.at_,e.x)] }:=by unfold bK;rw[if_neg k3,if_pos k8]
  have hO:dY o e=o:=by unfold dY;rw[if_neg (by omega),if_neg (by omega)]
  rw[gm bY k1 (by omega) h1 h2,hA,hO]
  have hr:=h5.put (.inl hc.1)
  have hvr:=h5.var hc.1
  have ok:=(hi.vC _ _ h1).mono (Int.le_refl s.clock) (show n≤n+1 by omega)
  exact turn (R s _ rfl) (Int.le_refl _) rfl h1 h3 h4 ⟨rfl,rfl,rfl,rfl⟩ ⟨hr.1,.inl hr.1⟩ (.inl rfl)
   ⟨ok.th,ok.tx,ok.from_,ok.dI,ok.rv,ok.wv,ok.gt,ok.nc,fun h=>absurd h hr.2.2.2.1,ok.F9,fun p hp=>by
    rcases List.mem_append.1 hp with hp | hp
    ·exact ok.Fv p hp
    ·rw[List.mem_singleton]at hp;subst hp;exact⟨hat.1,hat.2.1⟩,by
    refine List.pairwise_append.2 ⟨ok.up,List.pairwise_singleton _ _,fun p hp q hq=>?_⟩
    rw[List.mem_singleton]at hq
    subst hq
    have:=hvr p hp
    have:=hc.2.1
    show p.1 < e.at_
    omega⟩
   ⟨h5.o,h5.rv,fun h=>by have:=hc.1;dsimp only at h;omega,fun _=>hr,fun _ p hp=>by
    have:=hc.2.1
    rcases List.mem_append.1 hp with hp | hp
    ·have:=hvr p hp;dsimp only;omega
    ·rw[List.mem_singleton]at hp;subst hp;exact Int.le_refl _,fun h=>by have:=hc.1;dsimp only at h;omega,fun h=>by have:=hc.1;dsimp only at h;omega⟩ (fun h=>by have:=hc.1;dsimp only at h;omega) qL hc0 E5
 rw[if_neg k8]at hd
 by_cases k9:e.kind=9
 ·rw[if_pos k9]at hd
  have hA:∀ a o,bK a o e n={ a with dI:=if o-1=0 then n else a.dI }:=fun a o=>by unfold bK;rw[if_neg k3,if_neg k8,if_neg k7,if_pos (.inl k9)]
  have hO:∀ o,dY o e=o-1:=fun o=>by unfold dY;rw[if_neg k4,if_pos (.inl k9)]
  unfold iT at hd;split at hd
  case isFalse=>cases hd
  rename_i hc
  cases hd
  obtain⟨a,o,h1,h2,h3,h4,h5⟩:=mine (by omega)
  obtain⟨b1,b2⟩:=o9 (by omega) (by omega)
  rw[gm bY k1 (by omega) h1 h2,hA,hO]
  have hr:=h5.put (by omega)
  have ok:=(hi.vC _ _ h1).mono (Int.le_refl s.clock) (show n≤n+1 by omega)
  have hfr:=(hi.vC _ _ h1).from_
  have TA:e.at_.toNat=bH t.owned:=by have:=hc.2;omega
  have hbit:t.owned.testBit e.at_.toNat=true:=by rw[TA];exact iw (by omega)
  have hcnt:=Es hbit (by omega)
  have VJ:=h5.o
  by_cases hz:fV t.owned e.at_.toNat=0
  ·rw[if_pos hz]
   have ho:o-1=0:=by rw[hz,(jA (m:=0) (by decide)).2 rfl]at hcnt;omega
   rw[if_pos ho]
   exact turn (R (s.setSt e.at_ (-1,t.wv)) _ rfl) (Int.le_refl _) rfl h1 h3 h4 ⟨rfl,rfl,rfl,rfl⟩ ⟨hr.1,.inr rfl⟩ (.inl rfl)
    ⟨ok.th,ok.tx,ok.from_,.inr ⟨by dsimp only;omega,by dsimp only;omega⟩,ok.rv,ok.wv,ok.gt,ok.nc,ok.nw,ok.F9,ok.Fv,ok.up⟩
    ⟨by dsimp only;omega,h5.rv,fun h=>by dsimp only at h;omega,fun h=>by dsimp only at h;omega,fun h=>by dsimp only at h;omega,fun _=>⟨by dsimp only;omega,by dsimp only;rw[if_pos hr.2.1,hr.2.2.2.2]⟩,fun h=>by dsimp only at h;omega⟩ (fun h=>by dsimp only at h;omega) qL hc0 E5
  ·rw[if_neg hz]
   have ho:o-1≠0:=fun e0=>hz ((jA (qy wt.m2)).1 (by omega))
   rw[if_neg ho]
   exact turn (R (s.setSt e.at_ (-1,t.wv)) _ rfl) (Int.le_refl _) rfl h1 h3 h4 ⟨rfl,rfl,rfl,rfl⟩ ⟨hr.1,.inl hr.1⟩ (.inl rfl) ok
    ⟨by dsimp only;omega,h5.rv,fun h=>by dsimp only at h;omega,fun _=>hr,fun h=>by dsimp only at h;omega,fun h=>by dsimp only at h;omega,fun h=>by dsimp only at h;omega⟩ (fun h=>by dsimp only at h;omega) qL hc0 E5
 rw[if_neg k9]at hd
 by_cases k10:e.kind=10
 ·rw[if_pos k10]at hd
  have hA:∀ a o,bK a o e n={ a with dI:=if o=0 then n else a.dI }:=fun a o=>by unfold bK;rw[if_neg k3,if_neg k8,if_neg k7,if_neg (by omega),if_pos k10]
  have hO:∀ o,dY o e=o:=fun o=>by unfold dY;rw[if_neg k4,if_neg (by omega)]
  unfold jk at hd;split at hd
  case isFalse=>cases hd
  rename_i hc
  cases hd
  have hfa:=IZ hc
  obtain⟨a,o,h1,h2,h3,h4,h5⟩:=mine (by omega)
  rw[gm bY k1 (by omega) h1 h2,hA,hO]
  have hr:=h5.run (by omega)
  have ok:=(hi.vC _ _ h1).mono (Int.le_refl s.clock) (show n≤n+1 by omega)
  have hfr:=(hi.vC _ _ h1).from_
  have VJ:=h5.o
  by_cases hz:t.owned=0
  ·rw[if_pos hz]
   have ho:o=0:=by rw[hz,(jA (m:=0) (by decide)).2 rfl]at VJ;omega
   rw[if_pos ho]
   exact turn (R s _ rfl) (Int.le_refl _) rfl h1 h3 h4 ⟨rfl,rfl,rfl,rfl⟩ ⟨hr.1,.inr rfl⟩ (.inl rfl)
    ⟨ok.th,ok.tx,ok.from_,.inr ⟨by dsimp only;omega,by dsimp only;omega⟩,ok.rv,ok.wv,ok.gt,ok.nc,ok.nw,ok.F9,ok.Fv,ok.up⟩
    ⟨VJ,h5.rv,fun h=>by dsimp only at h;omega,fun h=>by dsimp only at h;omega,fun h=>by dsimp only at h;omega,fun _=>⟨by dsimp only;omega,by dsimp only;rw[hr.2.1,hr.2.2];simp⟩,fun h=>by dsimp only at h;omega⟩ (fun h=>by dsimp only at h;omega) qL hc0 E5
  ·rw[if_neg hz]
   have ho:o≠0:=fun e0=>hz ((jA wt.m2).1 (by omega))
   rw[if_neg ho]
   exact turn (R s _ rfl) (Int.le_refl _) rfl h1 h3 h4 ⟨rfl,rfl,rfl,rfl⟩ ⟨hr.1,.inl hr.1⟩ (.inl rfl) ok
    ⟨VJ,h5.rv,fun _=>hr,fun h=>by dsimp only at h;omega,fun h=>by dsimp only at h;omega,fun h=>by dsimp only at h;omega,fun h=>by dsimp only at h;omega⟩ (fun h=>by dsimp only at h;omega) qL hc0 E5
 rw[if_neg k10]at hd
 by_cases k11:e.kind=11
 ·rw[if_pos k11]at hd
  have hA:∀ a o,bK a o e n={ a with dI:=if o-1=0 then n else a.dI }:=fun a o=>by unfold bK;rw[if_neg k3,if_neg k8,if_neg k7,if_pos (.inr k11)]
  have hO:∀ o,dY o e=o-1:=fun o=>by unfold dY;rw[if_neg k4,if_pos (.inr k11)]
  unfold jX at hd;split at hd
  case isFalse=>cases hd
  rename_i hc
  cases hd
  obtain⟨a,o,h1,h2,h3,h4,h5⟩:=mine (by omega)
  obtain⟨b1,b2⟩:=o9 (by omega) (by omega)
  rw[gm bY k1 (by omega) h1 h2,hA,hO]
  have hr:=h5.run (by omega)
  have ok:=(hi.vC _ _ h1).mono (Int.le_refl s.clock) (show n≤n+1 by omega)
  have hfr:=(hi.vC _ _ h1).from_
  have TA:e.at_.toNat=bH t.owned:=by have:=hc.2;omega
  have hbit:t.owned.testBit e.at_.toNat=true:=by rw[TA];exact iw (by omega)
  have hcnt:=Es hbit (by omega)
  have VJ:=h5.o
  by_cases hz:fV t.owned e.at_.toNat=0
  ·have ho:o-1=0:=by rw[hz,(jA (m:=0) (by decide)).2 rfl]at hcnt;omega
   rw[if_pos ho]
   rw[if_pos hz]
   by_cases hf:t.full=true
   ·rw[if_pos hf]
    exact turn (R (s.setSt e.at_ (-1,s.jD e.at_)) _ rfl) (Int.le_refl _) rfl h1 h3 h4 ⟨rfl,rfl,rfl,rfl⟩ ⟨hr.1,.inr rfl⟩ (.inl rfl)
     ⟨ok.th,ok.tx,ok.from_,.inr ⟨by dsimp only;omega,by dsimp only;omega⟩,ok.rv,ok.wv,ok.gt,ok.nc,ok.nw,ok.F9,ok.Fv,ok.up⟩
     ⟨by dsimp only;omega,h5.rv,fun h=>by dsimp only at h;omega,fun h=>by dsimp only at h;omega,fun h=>by dsimp only at h;omega,fun h=>by dsimp only at h;omega,fun _=>⟨by dsimp only;omega,hr.2⟩⟩ (fun h=>by dsimp only at h;omega) qL hc0 E5
   ·rw[if_neg hf]
    exact turn (R (s.setSt e.at_ (-1,s.jD e.at_)) _ rfl) (Int.le_refl _) rfl h1 h3 h4 ⟨rfl,rfl,rfl,rfl⟩ ⟨hr.1,.inr rfl⟩ (.inl rfl)
     ⟨ok.th,ok.tx,ok.from_,.inr ⟨by dsimp only;omega,by dsimp only;omega⟩,ok.rv,ok.wv,ok.gt,ok.nc,ok.nw,ok.F9,ok.Fv,ok.up⟩
     ⟨by dsimp only;omega,h5.rv,fun h=>by dsimp only at h;omega,fun h=>by dsimp only at h;omega,fun h=>by dsimp only at h;omega,fun _=>⟨by dsimp only;omega,by dsimp only;rw[hr.2.1,hr.2.2];simp⟩,fun h=>by dsimp only at h;omega⟩ (fun h=>by dsimp only at h;omega) qL hc0 E5
  ·have ho:o-1≠0:=fun e0=>hz ((jA (qy wt.m2)).1 (by omega))
   rw[if_neg ho]
   rw[if_neg hz]
   exact turn (R (s.setSt e.at_ (-1,s.jD e.at_)) _ rfl) (Int.le_refl _) rfl h1 h3 h4 ⟨rfl,rfl,rfl,rfl⟩ ⟨hr.1,.inl hr.1⟩ (.inl rfl) ok
    ⟨by dsimp only;omega,h5.rv,fun _=>hr,fun h=>by dsimp only at h;omega,fun h=>by dsimp only at h;omega,fun h=>by dsimp only at h;omega,fun h=>by dsimp only at h;omega⟩ (fun h=>by dsimp only at h;omega) qL hc0 E5
 rw[if_neg k11]at hd
 by_cases k12:e.kind=12
 ·rw[if_pos k12]at hd
  have hA:∀ a o,bK a o e n={ a with dI:=n }:=fun a o=>by unfold bK;rw[if_neg k3,if_neg k8,if_neg k7,if_neg (by omega),if_neg k10,if_pos k12]
  have hO:∀ o,dY o e=o:=fun o=>by unfold dY;rw[if_neg k4,if_neg (by omega)]
  unfold oz at hd;split at hd
  case isFalse=>cases hd
  rename_i hc
  cases hd
  obtain⟨a,o,h1,h2,h3,h4,h5⟩:=mine (by omega)
  rw[gm bY k1 (by omega) h1 h2,hA,hO]
  have hr:=h5.run (by omega)
  have ok:=(hi.vC _ _ h1).mono (Int.le_refl s.clock) (show n≤n+1 by omega)
  have hfr:=(hi.vC _ _ h1).from_
  exact turn (R s _ rfl) (Int.le_refl _) rfl h1 h3 h4 ⟨rfl,rfl,rfl,rfl⟩ ⟨hr.1,.inr rfl⟩ (.inl rfl)
   ⟨ok.th,ok.tx,ok.from_,.inr ⟨by dsimp only;omega,by dsimp only;omega⟩,ok.rv,ok.wv,ok.gt,ok.nc,ok.nw,ok.F9,ok.Fv,ok.up⟩
   ⟨h5.o,h5.rv,fun h=>by dsimp only at h;omega,fun h=>by dsimp only at h;omega,fun h=>by dsimp only at h;omega,fun h=>by dsimp only at h;omega,fun _=>⟨by dsimp only;omega,hr.2⟩⟩ (fun h=>by dsimp only at h;omega) qL hc0 E5
 rw[if_neg k12]at hd
 unfold ny at hd;split at hd
 case isFalse=>cases hd
 rename_i hc
 cases hd
 unfold dS
 rw[if_neg k1,if_pos (by omega)]
 exact hi.wake hlt (R s _ rfl) rfl rfl (by rw[←ht];exact hc.1) (by rw[←ht])
theorem Nz:∀ (l:List Ev) {s s':Sh} {h:HS} {n:Int},Wf s→HI s h n→jc s l=some s'→HI s' (gZ h n l) (n+l.length)
 | [],s,s',h,n,hw,hi,hr=>by
  cases hr
  simpa[gZ]using hi
 | e :: l,s,s',h,n,hw,hi,hr=>by
  unfold jc at hr
  split at hr
  case h_2=>cases hr
  rename_i s1 hs
  have:=Nz l (qR hw hs) (IW hw hi hs) hr
  show HI s' (gZ (dS h n e) (n+1) l) _
  rw[show n+((e :: l).length:Nat)=n+1+(l.length:Nat) by simp only[List.length_cons];omega]
  exact this
end Go.Proofs.YtcddlnmcjmhbcaaDoor
namespace Go.Proofs.YtcddlnmcjmhbcaaDoor
set_option linter.unusedVariables false
set_option linter.unusedSimpArgs false
structure Sub (n:Int) (a b:aH):Prop where
 th:a.th=b.th
 tx:a.tx=b.tx
 from_:a.from_=b.from_
 rv:a.rv=b.rv
 F9:a.reads <+:b.reads
 Fv:a.writes <+:b.writes
 com:a.com=true→b.com=true∧a.wv=b.wv
 Vg:a.dI≠-1→a.dI=b.dI
 Vh:a.dI=-1→b.dI≠-1→n≤b.dI
theorem Sub.refl (n:Int) (a:aH):Sub n a a:=⟨rfl,rfl,rfl,rfl,List.prefix_refl _,List.prefix_refl _,fun h=>⟨h,rfl⟩,fun _=>rfl,fun h h'=>absurd h h'⟩
theorem Sub.trans {n n':Int} {a b c:aH} (h:Sub n a b) (h':Sub n' b c) (hn:n≤n'):Sub n a c where
 th:=h.th.trans h'.th
 tx:=h.tx.trans h'.tx
 from_:=h.from_.trans h'.from_
 rv:=h.rv.trans h'.rv
 F9:=h.F9.trans h'.F9
 Fv:=h.Fv.trans h'.Fv
 com hc:=by
  obtain⟨h1,h2⟩:=h.com hc
  obtain⟨h3,h4⟩:=h'.com h1
  exact⟨h3,h2.trans h4⟩
 Vg hc:=by
  have h1:=h.Vg hc
  rw[h1]
  exact h'.Vg (by rw[←h1];exact hc)
 Vh h1 h2:=by
  by_cases hb:b.dI=-1
  ·have:=h'.Vh hb h2;omega
  ·have e:=h'.Vg hb
   have:=h.Vh h1 hb
   omega
theorem yS {s s':Sh} {h:HS} {n:Int} {e:Ev} (hw:Wf s) (hi:HI s h n) (hs:stepS s e=some s') (k1:e.kind≠1) (k13:e.kind≠13):
  ∃ a o,h.out[h.last e.th]? =some a∧h.owned[h.last e.th]? =some o∧a.th=e.th∧a.dI=-1∧(e.kind=7→a.com=false):=by
 obtain⟨th,t',bY,hlt,_,_,_,hmv,_,_⟩:=xQ hw hs
 have hat:1≤(s.aN.getD th Th.zero).at_∧(s.aN.getD th Th.zero).at_≤7∧(e.kind=7→(s.aN.getD th Th.zero).at_=1∨(s.aN.getD th Th.zero).at_=4):=by
  unfold Moves at hmv;omega
 obtain⟨a,o,h1,h2,h3,h4,h5⟩:=hi.mine hlt (by omega)
 refine⟨a,o,by rw[bY];exact h1,by rw[bY];exact h2,by rw[bY];exact h3,?_,fun hk=>?_⟩
 ·by_cases hp:(s.aN.getD th Th.zero).at_=5∨(s.aN.getD th Th.zero).at_=6
  ·exact(h5.put hp).1
  ·exact(h5.run (by omega)).1
 ·exact(h5.run (by have:=hat.2.2 hk;omega)).2.1
theorem Qm (m:Nat):xA m≤32:=by
 have:=List.countP_le_length (p:=fun i=>m.testBit i) (l:=List.range 32)
 rw[List.length_range]at this
 exact this
theorem VO {s s':Sh} {h:HS} {n:Int} {e:Ev} (hw:Wf s) (hi:HI s h n) (hs:stepS s e=some s') (k1:e.kind≠1) (k13:e.kind≠13):∃ o,h.owned[h.last e.th]? =some o∧0≤o∧o≤32:=by
 obtain⟨th,t',bY,hlt,_,_,_,hmv,_,_⟩:=xQ hw hs
 have hat:(s.aN.getD th Th.zero).at_≠0:=by unfold Moves at hmv;omega
 obtain⟨a,o,h1,h2,h3,h4,h5⟩:=hi.mine hlt hat
 have:=Qm (s.aN.getD th Th.zero).owned
 have:=h5.o
 exact⟨o,by rw[bY];exact h2,by omega,by omega⟩
theorem DD {a:aH} {o n:Int} {e:Ev} (h0:a.dI=-1) (h7:e.kind=7→a.com=false) (hn:0≤n):Sub n a (bK a o e n)∧((bK a o e n).dI=-1∨(bK a o e n).dI=n):=by
 have ht:∀ c:Prop,[Decidable c]→(if c then n else a.dI)=-1∨(if c then n else a.dI)=n:=by intro c _;split;exact .inr rfl;exact .inl h0
 have h0':∀ c:Prop,[Decidable c]→a.dI=-1→(if c then n else a.dI)≠-1→n≤(if c then n else a.dI):=by
  intro c _ h1 h2
  by_cases hc:c
  ·rw[if_pos hc];omega
  ·rw[if_neg hc]at h2;exact absurd h1 h2
 unfold bK
 split
 ·exact⟨⟨rfl,rfl,rfl,rfl,List.prefix_append _ _,List.prefix_refl _,fun h=>⟨h,rfl⟩,fun _=>rfl,fun h h'=>absurd h h'⟩,.inl h0⟩
 ·split
  ·exact⟨⟨rfl,rfl,rfl,rfl,List.prefix_refl _,List.prefix_append _ _,fun h=>⟨h,rfl⟩,fun _=>rfl,fun h h'=>absurd h h'⟩,.inl h0⟩
  ·split
   ·rename_i hk
    exact⟨⟨rfl,rfl,rfl,rfl,List.prefix_refl _,List.prefix_refl _,(fun h=>by rw[h7 hk]at h;cases h),fun h=>absurd h0 h,h0' _⟩,ht _⟩
   ·split
    ·exact⟨⟨rfl,rfl,rfl,rfl,List.prefix_refl _,List.prefix_refl _,fun h=>⟨h,rfl⟩,fun h=>absurd h0 h,h0' _⟩,ht _⟩
    ·split
     ·exact⟨⟨rfl,rfl,rfl,rfl,List.prefix_refl _,List.prefix_refl _,fun h=>⟨h,rfl⟩,fun h=>absurd h0 h,h0' _⟩,ht _⟩
     ·split
      ·exact⟨⟨rfl,rfl,rfl,rfl,List.prefix_refl _,List.prefix_refl _,fun h=>⟨h,rfl⟩,fun h=>absurd h0 h,fun _ _=>Int.le_refl _⟩,.inr rfl⟩
      ·exact⟨Sub.refl _ _,.inl h0⟩
structure Grown (n:Int) (A B:List aH):Prop where
 len:A.length≤B.length
 old:∀ k,k < A.length→Sub n (A.getD k aH.zero) (B.getD k aH.zero)
 new:∀ k,A.length≤k→k < B.length→n≤(B.getD k aH.zero).from_
theorem Grown.refl (n:Int) (A:List aH):Grown n A A:=⟨Nat.le_refl _,fun _ _=>Sub.refl _ _,fun k h1 h2=>absurd h2 (Nat.not_lt.2 h1)⟩
theorem Grown.trans {n n':Int} {A B C:List aH} (h:Grown n A B) (h':Grown n' B C) (hn:n≤n'):Grown n A C where
 len:=Nat.le_trans h.len h'.len
 old k hk:=(h.old k hk).trans (h'.old k (Nat.lt_of_lt_of_le hk h.len)) hn
 new k h1 h2:=by
  by_cases hb:k < B.length
  ·rw[←(h'.old k hb).from_];exact h.new k h1 hb
  ·exact Int.le_trans hn (h'.new k (Nat.not_lt.1 hb) h2)
theorem GV {s s':Sh} {h:HS} {n:Int} {e:Ev} (hw:Wf s) (hi:HI s h n) (hs:stepS s e=some s'):Grown n h.out (dS h n e).out:=by
 unfold dS
 split
 ·refine⟨by simp,fun k hk=>?_,fun k h1 h2=>?_⟩
  ·show Sub n (h.out.getD k aH.zero) ((h.out++[kY e n]).getD k aH.zero)
   rw[List.getD_eq_getElem?_getD,List.getD_eq_getElem?_getD,List.getElem?_append_left hk]
   exact Sub.refl _ _
  ·have:k=h.out.length:=by simp at h2;omega
   subst this
   show n≤((h.out++[kY e n]).getD h.out.length aH.zero).from_
   rw[List.getD_eq_getElem?_getD,List.getElem?_append_right (Nat.le_refl _),Nat.sub_self]
   exact Int.le_refl _
 ·split
  ·exact Grown.refl _ _
  ·rename_i k1 k13
   obtain⟨a,o,h1,h2,h3,h4,h5⟩:=yS hw hi hs k1 k13
   rw[dD h1,dD h2]
   have hl:=(List.getElem?_eq_some_iff.1 h1).1
   refine⟨by simp,fun k hk=>?_,fun k h1 h2=>absurd h2 (by simp;omega)⟩
   show Sub n (h.out.getD k aH.zero) ((h.out.set (h.last e.th) (bK a o e n)).getD k aH.zero)
   by_cases he:h.last e.th=k
   ·subst he
    rw[aQ _ _ _ _ hl,dD h1]
    exact(DD h4 h5 hi.pos).1
   ·rw[getD_set_ne _ _ _ _ _ he]
    exact Sub.refl _ _
theorem AY:∀ (l:List Ev) {s s':Sh} {h:HS} {n:Int},Wf s→HI s h n→jc s l=some s'→Grown n h.out (gZ h n l).out
 | [],s,s',h,n,hw,hi,hr=>Grown.refl _ _
 | e :: l,s,s',h,n,hw,hi,hr=>by
  unfold jc at hr
  split at hr
  case h_2=>cases hr
  rename_i s1 hs
  exact(GV hw hi hs).trans (AY l (qR hw hs) (IW hw hi hs) hr) (by omega)
theorem ve:∀ (l m:List Ev) (h:HS) (i:Int),gZ h i (l++m)=gZ (gZ h i l) (i+l.length) m
 | [],m,h,i=>by simp[gZ]
 | x :: l,m,h,i=>by
  show gZ (dS h i x) (i+1) (l++m)=gZ (gZ (dS h i x) (i+1) l) _ m
  rw[ve l m]
  congr 1
  simp only[List.length_cons];omega
structure Hist (T V S:Int) (l:List Ev) (s:Sh):Prop where
 size:eY T V S=true
 run:jc (fF T V S) l=some s
theorem Hist.hi {T V S:Int} {l:List Ev} {s:Sh} (h:Hist T V S l s):HI s (az l) l.length:=by
 have:=Nz l (xN h.size) (hi_new T V S) h.run
 rwa [Int.zero_add]at this
theorem Hist.wf {T V S:Int} {l:List Ev} {s:Sh} (h:Hist T V S l s):Wf s:=Iw l (xN h.size) h.run
theorem Hist.take {T V S:Int} {l:List Ev} {s:Sh} (h:Hist T V S l s) (k:Nat):∃ r,Hist T V S (l.take k) r:=by
 obtain⟨r,hr⟩:=Ap (k:=k) h.run
 exact⟨r,h.size,hr⟩
theorem Hist.grown {T V S:Int} {l:List Ev} {s:Sh} (h:Hist T V S l s) {k:Nat} (hk:k≤l.length):Grown k (az (l.take k)).out (az l).out:=by
 obtain⟨r,hr⟩:=h.take k
 have e:l=l.take k++l.drop k:=(List.take_append_drop k l).symm
 have hrun:=h.run
 rw[e,qX,hr.run]at hrun
 have:=AY (l.drop k) hr.wf hr.hi hrun
 rw[List.length_take,Nat.min_eq_left hk]at this
 have e2:az l=gZ (az (l.take k)) k (l.drop k):=by
  conv=>lhs;rw[e]
  unfold az
  rw[ve,List.length_take,Nat.min_eq_left hk,Int.zero_add]
 rw[e2]
 exact this
theorem Hist.step {T V S:Int} {l:List Ev} {s:Sh} (h:Hist T V S l s) {k:Nat} (hk:k < l.length):∃ r r',Hist T V S (l.take k) r∧stepS r l[k]=some r'∧Hist T V S (l.take (k+1)) r':=by
 obtain⟨r,hr⟩:=h.take k
 obtain⟨r',h1,h2⟩:=Js h.run hk hr.run
 exact⟨r,r',hr,h1,h.size,h2⟩
def mD (l:List Ev) (i:Nat):Int:=match l[i]? with
 | some e=>Fb (az (l.take i)) e
 | none=>-1
theorem rE {l:List Ev} {i:Nat} (h:i < l.length):mD l i=Fb (az (l.take i)) l[i]:=by
 unfold mD;rw[List.getElem?_eq_getElem h]
theorem DX (l:List Ev):∀ k,k≤l.length→Fa (l.take k)=(List.range k).map (mD l)
 | 0,_=>by simp[Fa,Q9]
 | k+1,h=>by
  rw[MF h,DX l k (by omega),List.range_succ,List.map_append,List.map_cons,List.map_nil,rE h]
theorem BU (l:List Ev):Fa l=(List.range l.length).map (mD l):=by
 have:=DX l l.length (Nat.le_refl _)
 rwa [List.take_length]at this
structure Xl (l:List Ev) (i:Nat) (e:Ev) (k:Nat) (a:aH):Prop where
 of:mD l i=k
 lt:k < (az l).out.length
 get:(az l).out.getD k aH.zero=a
 th:a.th=e.th
 from_:a.from_≤i
 dI:a.dI≠-1→(i:Int)≤a.dI
 begin:e.kind=1→k=(az (l.take i)).out.length∧a.from_=i∧a.tx=e.tx∧a.rv=e.v
 load:e.kind=3→a.reads[((az (l.take i)).out.getD k aH.zero).reads.length]? =some (e.at_,e.x)
 store:e.kind=8→a.writes[((az (l.take i)).out.getD k aH.zero).writes.length]? =some (e.at_,e.x)
 YU:e.kind=7→a.com=true∧a.wv=e.v
theorem yu {α:Type} {l m:List α} {k:Nat} {x:α} (h:l <+:m) (hx:l[k]? =some x):m[k]? =some x:=by
 obtain⟨t,rfl⟩:=h
 rw[List.getElem?_append_left (List.getElem?_eq_some_iff.1 hx).1];exact hx
theorem Hist.each {T V S:Int} {l:List Ev} {s:Sh} (h:Hist T V S l s) {i:Nat} (hi:i < l.length) (k13:l[i].kind≠13):∃ k a,Xl l i l[i] k a:=by
 obtain⟨r,r',hr,hs,hr'⟩:=h.step hi
 have hg:=h.grown (k:=i+1) hi
 have hlen:((l.take i).length:Int)=i:=by rw[List.length_take,Nat.min_eq_left (Nat.le_of_lt hi)]
 have hI:=hr.hi
 rw[hlen]at hI
 have hst:=uo hi
 by_cases k1:l[i].kind=1
 ·have ho:mD l i=((az (l.take i)).out.length:Nat):=by rw[rE hi];unfold Fb;rw[if_pos k1]
  have hout:(az (l.take (i+1))).out=(az (l.take i)).out++[kY l[i] i]:=by rw[hst];unfold dS;rw[if_pos k1]
  have hk:(az (l.take i)).out.length < (az (l.take (i+1))).out.length:=by rw[hout];simp
  have hget:(az (l.take (i+1))).out.getD (az (l.take i)).out.length aH.zero=kY l[i] i:=by
   rw[hout,List.getD_eq_getElem?_getD,List.getElem?_append_right (Nat.le_refl _),Nat.sub_self];rfl
  have hsub:=hg.old _ hk
  rw[hget]at hsub
  refine⟨_,_,ho,Nat.lt_of_lt_of_le hk hg.len,rfl,hsub.th.symm,?_,fun h1=>?_,fun _=>⟨rfl,hsub.from_.symm,hsub.tx.symm,hsub.rv.symm⟩,fun h3=>by omega,fun h8=>by omega,fun h7=>by omega⟩
  ·rw[←hsub.from_];exact Int.le_refl _
  ·have:=hsub.Vh rfl h1;omega
 ·obtain⟨a,o,h1,h2,h3,h4,h5⟩:=yS hr.wf hI hs k1 k13
  have hl:=(List.getElem?_eq_some_iff.1 h1).1
  have ho:mD l i=((az (l.take i)).last l[i].th:Nat):=by rw[rE hi];unfold Fb;rw[if_neg k1,if_neg k13]
  have hout:(az (l.take (i+1))).out=(az (l.take i)).out.set ((az (l.take i)).last l[i].th) (bK a o l[i] i):=by
   rw[hst];unfold dS;rw[if_neg k1,if_neg k13,dD h1,dD h2]
  have hk:(az (l.take i)).last l[i].th < (az (l.take (i+1))).out.length:=by rw[hout,List.length_set];exact hl
  have hget:(az (l.take (i+1))).out.getD ((az (l.take i)).last l[i].th) aH.zero=bK a o l[i] i:=by rw[hout];exact aQ _ _ _ _ hl
  have hsub:=hg.old _ hk
  rw[hget]at hsub
  obtain⟨ts,tt⟩:=DD (o:=o) (n:=(i:Int)) h4 h5 (by omega)
  have hgo:(az (l.take i)).out.getD ((az (l.take i)).last l[i].th) aH.zero=a:=dD h1
  have hfr:=(hI.vC _ _ h1).from_
  refine⟨_,_,ho,Nat.lt_of_lt_of_le hk hg.len,rfl,?_,?_,fun h1=>?_,fun h=>absurd h k1,fun k3=>?_,fun k8=>?_,fun k7=>?_⟩
  ·rw[←hsub.th,←ts.th];exact h3
  ·rw[←hsub.from_,←ts.from_];omega
  ·rcases tt with e | e
   ·have:=hsub.Vh e h1;omega
   ·have:=hsub.Vg (by omega);omega
  ·refine yu hsub.F9 ?_
   rw[hgo]
   unfold bK
   rw[if_pos k3]
   simp
  ·refine yu hsub.Fv ?_
   rw[hgo]
   unfold bK
   rw[if_neg (by omega),if_pos k8]
   simp
  ·have hc:(bK a o l[i] i).com=true∧(bK a o l[i] i).wv=l[i].v:=by
    unfold bK
    rw[if_neg (by omega),if_neg (by omega),if_pos k7]
    exact⟨rfl,rfl⟩
   obtain⟨q1,q2⟩:=hsub.com hc.1
   exact⟨q1,by rw[←q2];exact hc.2⟩
end Go.Proofs.YtcddlnmcjmhbcaaDoor
namespace Go.Proofs.YtcddlnmcjmhbcaaDoor
set_option linter.unusedVariables false
set_option linter.unusedSimpArgs false
def dL (l:List Ev) (i:Nat):Ev:=l.getD i evZ
def opn (l:List Ev) (b i:Nat):Bool:=(List.range (i+1)).all fun j=>!(decide (b < j)&&decide ((dL l j).th=(dL l b).th)&&decide ((dL l j).kind=1))
def tJ (l:List Ev) (b i:Nat):Bool:=decide (b≤i)&&decide ((dL l i).th=(dL l b).th)&&!decide ((dL l i).kind=13)&&opn l b i
def dZ (l:List Ev) (b:Nat):List Nat:=(List.range l.length).filter (tJ l b)
structure FR where
 a:aH
 lk:Int
 gn:Int
def o7 (f:FR) (x:Ev):FR:=
 if x.kind=3 then{ f with a:={ f.a with reads:=f.a.reads++[(x.at_,x.x)] } }
 else if x.kind=8 then{ f with a:={ f.a with writes:=f.a.writes++[(x.at_,x.x)] } }
 else if x.kind=7 then{ f with a:={ f.a with com:=true,wv:=x.v } }
 else if x.kind=4 then{ f with lk:=f.lk+1 }
 else if x.kind=9∨x.kind=11 then{ f with gn:=f.gn+1 }
 else f
def dK (l:List Ev) (f:FR) (m:List Nat):FR:=m.foldl (fun f i=>o7 f (dL l i)) f
def iq (l:List Ev) (b:Nat):FR:=⟨kY (dL l b) b,0,0⟩
def jg (l:List Ev) (b:Nat):FR:=dK l (iq l b) (dZ l b)
def ku (k lk gn:Int):Bool:=decide ((k=7∨k=10)∧lk=0)||decide ((k=9∨k=11)∧gn=lk)||decide (k=12)
def jR (l:List Ev) (b:Nat):Nat:=(dZ l b).getLastD 0
def iM (l:List Ev) (b:Nat):aH:={ (jg l b).a with dI:=if ku (dL l (jR l b)).kind (jg l b).lk (jg l b).gn=true then(jR l b:Int)else -1 }
def Fe (l:List Ev) (i:Nat):Bool:=decide ((dL l i).kind=1)
def fZ (l:List Ev):List Nat:=(List.range l.length).filter (Fe l)
def AA (l:List Ev):List aH:=(fZ l).map (iM l)
theorem iJ {m:List Ev} {e:Ev} {i:Nat} (h:i < m.length):dL (m++[e]) i=dL m i:=by
 unfold dL
 rw[List.getD_eq_getElem?_getD,List.getD_eq_getElem?_getD,List.getElem?_append_left h]
theorem jh {m:List Ev} {e:Ev}:dL (m++[e]) m.length=e:=by
 unfold dL
 rw[List.getD_eq_getElem?_getD,List.getElem?_append_right (Nat.le_refl _),Nat.sub_self];rfl
theorem PS {l:List Ev} {b i:Nat}:opn l b i=true↔∀ j,b < j→j≤i→(dL l j).th=(dL l b).th→(dL l j).kind≠1:=by
 unfold opn
 rw[List.all_eq_true]
 constructor
 ·intro h j h1 h2 h3 h4
  have:=h j (List.mem_range.2 (by omega))
  simp[h1,h3,h4]at this
 ·intro h j hj
  have hj':=List.mem_range.1 hj
  by_cases h1:b < j
  ·by_cases h3:(dL l j).th=(dL l b).th
   ·have:=h j h1 (by omega) h3
    simp[this]
   ·simp[h3]
  ·simp[h1]
theorem gz {l:List Ev} {b i:Nat}:tJ l b i=true↔b≤i∧(dL l i).th=(dL l b).th∧(dL l i).kind≠13∧∀ j,b < j→j≤i→(dL l j).th=(dL l b).th→(dL l j).kind≠1:=by
 unfold tJ
 simp only[Bool.and_eq_true,PS,Bool.not_eq_true',decide_eq_true_eq,decide_eq_false_iff_not]
 constructor
 ·rintro⟨⟨⟨h1,h2⟩,h3⟩,h4⟩;exact⟨h1,h2,h3,h4⟩
 ·rintro⟨h1,h2,h3,h4⟩;exact⟨⟨⟨h1,h2⟩,h3⟩,h4⟩
theorem P9 {m:List Ev} {e:Ev} {b i:Nat} (h:i < m.length):tJ (m++[e]) b i=tJ m b i:=by
 rw[Bool.eq_iff_iff,gz,gz,iJ h]
 constructor
 ·rintro⟨h1,h2,h3,h4⟩
  rw[iJ (show b < m.length by omega)]at h2 h4
  exact⟨h1,h2,h3,fun j a1 a2 a3=>by have:=h4 j a1 a2;rw[iJ (show j < m.length by omega)]at this;exact this a3⟩
 ·rintro⟨h1,h2,h3,h4⟩
  rw[iJ (show b < m.length by omega)]
  exact⟨h1,h2,h3,fun j a1 a2 a3=>by rw[iJ (show j < m.length by omega)]at a3⊢;exact h4 j a1 a2 a3⟩
theorem pX (m:List Ev) (e:Ev):fZ (m++[e])=fZ m++if e.kind=1 then[m.length]else[]:=by
 unfold fZ
 rw[List.length_append,List.length_singleton,List.range_succ,List.filter_append]
 congr 1
 ·refine List.filter_congr fun i hi=>?_
  unfold Fe
  rw[iJ (List.mem_range.1 hi)]
 ·have:Fe (m++[e]) m.length=decide (e.kind=1):=by unfold Fe;rw[jh]
  rw[List.filter_cons,List.filter_nil,this]
  by_cases h:e.kind=1 <;> simp[h]
theorem ql (m:List Ev) (e:Ev) (b:Nat):dZ (m++[e]) b=dZ m b++if tJ (m++[e]) b m.length=true then[m.length]else[]:=by
 unfold dZ
 rw[List.length_append,List.length_singleton,List.range_succ,List.filter_append]
 congr 1
 ·exact List.filter_congr fun i hi=>P9 (List.mem_range.1 hi)
 ·rw[List.filter_cons,List.filter_nil]
theorem jY {l:List Ev} {b i:Nat}:i∈dZ l b↔i < l.length∧tJ l b i=true:=by unfold dZ;rw[List.mem_filter,List.mem_range]
theorem jd {l:List Ev} {i:Nat}:i∈fZ l↔i < l.length∧(dL l i).kind=1:=by unfold fZ Fe;rw[List.mem_filter,List.mem_range,decide_eq_true_eq]
theorem wW {l l':List Ev}:∀ (m:List Nat) (f:FR),(∀ i∈m,dL l i=dL l' i)→dK l f m=dK l' f m
 | [],f,_=>rfl
 | i :: m,f,h=>by
  show dK l (o7 f (dL l i)) m=dK l' (o7 f (dL l' i)) m
  rw[h i (List.mem_cons_self ..)]
  exact wW m _ fun j hj=>h j (List.mem_cons_of_mem _ hj)
theorem zl (l:List Ev) (f:FR) (m:List Nat) (i:Nat):dK l f (m++[i])=o7 (dK l f m) (dL l i):=by unfold dK;rw[List.foldl_append];rfl
theorem Ob {m:List Ev} {e:Ev} {b:Nat} (hb:b < m.length):iq (m++[e]) b=iq m b:=by unfold iq;rw[iJ hb]
theorem gI {m:List Ev} {e:Ev} {b:Nat} (hb:b < m.length):jg (m++[e]) b=if tJ (m++[e]) b m.length=true then o7 (jg m b) e else jg m b:=by
 unfold jg
 have h1:dK (m++[e]) (iq m b) (dZ m b)=dK m (iq m b) (dZ m b):=wW _ _ fun i hi=>iJ (jY.1 hi).1
 rw[ql,Ob hb]
 split
 ·rw[zl,h1,jh]
 ·rw[List.append_nil,h1]
theorem MV {m:List Ev} {b:Nat} (hb:b < m.length):jR m b < m.length:=by
 unfold jR
 rcases List.eq_nil_or_concat (dZ m b)with h | ⟨L,x,h⟩
 ·rw[h];show 0 < _;omega
 ·have hx:x∈dZ m b:=by rw[h];simp
  rw[h,List.concat_eq_append,List.getLastD_eq_getLast?,List.getLast?_append]
  exact(jY.1 hx).1
theorem H7 {m:List Ev} {e:Ev} {b:Nat} (hb:b < m.length) (h:tJ (m++[e]) b m.length=false):iM (m++[e]) b=iM m b:=by
 have h1:jR (m++[e]) b=jR m b:=by unfold jR;rw[ql,h];simp
 unfold iM
 rw[gI hb,h,h1,iJ (MV hb)]
 simp
theorem QB {m:List Ev} {e:Ev} {b:Nat} (hb:b < m.length) (h:tJ (m++[e]) b m.length=true):
  iM (m++[e]) b={ (o7 (jg m b) e).a with dI:=if ku e.kind (o7 (jg m b) e).lk (o7 (jg m b) e).gn=true then(m.length:Int)else -1 }:=by
 have h1:jR (m++[e]) b=m.length:=by
  unfold jR
  rw[ql,if_pos h,List.getLastD_eq_getLast?,List.getLast?_append];rfl
 unfold iM
 rw[gI hb,if_pos h,h1,jh]
theorem QC {m:List Ev} {e:Ev} (h1:e.kind=1):iM (m++[e]) m.length=kY e m.length∧jg (m++[e]) m.length=⟨kY e m.length,0,0⟩:=by
 have hM:dZ (m++[e]) m.length=[m.length]:=by
  have h0:dZ m m.length=[]:=by
   unfold dZ
   rw[List.filter_eq_nil_iff]
   intro i hi
   have:=List.mem_range.1 hi
   unfold tJ
   simp[show ¬ m.length≤i by omega]
  rw[ql,h0,if_pos (gz.2 ⟨Nat.le_refl _,rfl,by rw[jh];omega,fun j a b=>by omega⟩)];rfl
 have hF:jg (m++[e]) m.length=⟨kY e m.length,0,0⟩:=by
  unfold jg dK iq
  rw[hM,jh]
  show o7 _ (dL (m++[e]) m.length)=_
  rw[jh]
  unfold o7
  simp[h1]
 refine⟨?_,hF⟩
 have hl:jR (m++[e]) m.length=m.length:=by unfold jR;rw[hM];rfl
 unfold iM
 rw[hF,hl,jh]
 have:ku e.kind 0 0=false:=by unfold ku;simp[h1]
 simp only[this]
 rfl
theorem NQ (l:List Ev) (b:Nat):(jg l b).a.th=(dL l b).th:=by
 have:∀ (m:List Nat) (f:FR),(dK l f m).a.th=f.a.th:=by
  intro m
  induction m with
  | nil=>intro f;rfl
  | cons i m ih=>
   intro f
   show(dK l (o7 f (dL l i)) m).a.th=_
   rw[ih]
   unfold o7
   repeat' split
   all_goals rfl
 exact this _ _
theorem CV (l:List Ev) (b:Nat):(iM l b).th=(dL l b).th:=NQ l b
theorem Ja (l:List Ev):(fZ l).Pairwise (· < ·):=List.Pairwise.filter _ (List.pairwise_lt_range)
theorem Qv {l:List Ev} {n n' b b':Nat} (h:(fZ l)[n]? =some b) (h':(fZ l)[n']? =some b') (hlt:b < b'):n < n':=by
 obtain⟨q,rfl⟩:=List.getElem?_eq_some_iff.1 h
 obtain⟨q',rfl⟩:=List.getElem?_eq_some_iff.1 h'
 rcases Nat.lt_trichotomy n n' with h1 | h1 | h1
 ·exact h1
 ·subst h1;omega
 ·have:=(List.pairwise_iff_getElem.1 (Ja l)) n' n q' q h1;omega
theorem wL {l:List Ev} {n n' b b':Nat} (h:(fZ l)[n]? =some b) (h':(fZ l)[n']? =some b') (hlt:n < n'):b < b':=by
 obtain⟨q,rfl⟩:=List.getElem?_eq_some_iff.1 h
 obtain⟨q',rfl⟩:=List.getElem?_eq_some_iff.1 h'
 exact(List.pairwise_iff_getElem.1 (Ja l)) n n' q q' hlt
structure RInv (s:Sh) (m:List Ev):Prop where
 out:(az m).out=AA m
 own:∀ (n b:Nat),(fZ m)[n]? =some b→(az m).owned[n]? =some ((jg m b).lk-(jg m b).gn)
 gn:∀ i,i < s.aN.length→1≤(s.aN.getD i Th.zero).at_→(s.aN.getD i Th.zero).at_≤4→∀ (b:Nat),(fZ m)[(az m).last i]? =some b→(jg m b).gn=0
theorem uq (m:List Ev) (e:Ev):az (m++[e])=dS (az m) m.length e:=by unfold az;rw[uu,Int.zero_add]
theorem RInv.vC {s:Sh} {m:List Ev} (h:RInv s m) {n b:Nat} (hb:(fZ m)[n]? =some b):(az m).out[n]? =some (iM m b):=by
 rw[h.out];unfold AA;rw[List.getElem?_map,hb];rfl
theorem RInv.TS {s:Sh} {m:List Ev} (h:RInv s m) {n:Nat} {a:aH} (ha:(az m).out[n]? =some a):∃ b,(fZ m)[n]? =some b∧a=iM m b:=by
 rw[h.out]at ha;unfold AA at ha;rw[List.getElem?_map,Option.map_eq_some_iff]at ha
 obtain⟨b,h1,h2⟩:=ha
 exact⟨b,h1,h2.symm⟩
theorem Ec {s:Sh} {m:List Ev} (h:RInv s m) (hi:HI s (az m) m.length) {e:Ev} (k1:e.kind≠1) (k13:e.kind≠13) {a:aH} (ha:(az m).out[(az m).last e.th]? =some a) (hth:a.th=e.th)
  (hlast:∀ (q:Nat) (c:aH),(az m).last e.th < q→(az m).out[q]? =some c→c.th≠e.th) {n b:Nat} (hb:(fZ m)[n]? =some b):tJ (m++[e]) b m.length=true↔n=(az m).last e.th:=by
 obtain⟨b0,hb0,rfl⟩:=h.TS ha
 rw[CV]at hth
 have hbm:=jd.1 (List.mem_of_getElem? hb)
 have Kt:=jd.1 (List.mem_of_getElem? hb0)
 rw[gz,jh,iJ hbm.1]
 constructor
 ·rintro⟨-,h2,-,h4⟩
  rcases Nat.lt_trichotomy n ((az m).last e.th)with hl | hl | hl
  ·exfalso
   have hlt:=wL hb hb0 hl
   have:=h4 b0 hlt (by omega)
   rw[iJ Kt.1]at this
   exact this (hth.trans h2) Kt.2
  ·exact hl
  ·exfalso
   have:=hlast n _ hl (h.vC hb)
   rw[CV]at this
   exact this h2.symm
 ·rintro rfl
  obtain rfl:b=b0:=by rw[hb]at hb0;exact Option.some.inj hb0
  refine⟨by omega,hth.symm,k13,fun j h1 h2 h3=>?_⟩
  by_cases hj:j=m.length
  ·subst hj;rw[jh];exact k1
  ·have hjm:j < m.length:=by omega
   rw[iJ hjm]at h3⊢
   intro hk
   obtain⟨q,hq⟩:=List.getElem?_of_mem (jd.2 ⟨hjm,hk⟩)
   have hlt:=Qv hb hq h1
   have:=hlast q _ hlt (h.vC hq)
   rw[CV]at this
   exact this (h3.trans hth)
theorem O6 (f:FR) (e:Ev) (n:Int) (hg:e.kind=7∨e.kind=10→f.gn=0):
  ({ (o7 f e).a with dI:=if ku e.kind (o7 f e).lk (o7 f e).gn=true then n else -1 }:aH)=bK { f.a with dI:=-1 } (f.lk-f.gn) e n∧(o7 f e).lk-(o7 f e).gn=dY (f.lk-f.gn) e:=by
 unfold bK dY
 by_cases k3:e.kind=3
 ·have h1:o7 f e={ f with a:={ f.a with reads:=f.a.reads++[(e.at_,e.x)] } }:=by unfold o7;rw[if_pos k3]
  rw[h1,if_pos k3]
  simp[ku,k3]
 ·by_cases k8:e.kind=8
  ·have h1:o7 f e={ f with a:={ f.a with writes:=f.a.writes++[(e.at_,e.x)] } }:=by unfold o7;rw[if_neg k3,if_pos k8]
   rw[h1,if_neg k3,if_pos k8]
   simp[ku,k8]
  ·by_cases k7:e.kind=7
   ·have h1:o7 f e={ f with a:={ f.a with com:=true,wv:=e.v } }:=by unfold o7;rw[if_neg k3,if_neg k8,if_pos k7]
    have g0:=hg (Or.inl k7)
    rw[h1,if_neg k3,if_neg k8,if_pos k7]
    simp[ku,k7,g0]
   ·by_cases k4:e.kind=4
    ·have h1:o7 f e={ f with lk:=f.lk+1 }:=by unfold o7;rw[if_neg k3,if_neg k8,if_neg k7,if_pos k4]
     rw[h1]
     simp[ku,k4]
     omega
    ·by_cases k9:e.kind=9∨e.kind=11
     ·have h1:o7 f e={ f with gn:=f.gn+1 }:=by unfold o7;rw[if_neg k3,if_neg k8,if_neg k7,if_neg k4,if_pos k9]
      rw[h1,if_neg k3,if_neg k8,if_neg k7,if_pos k9,if_neg k4,if_pos k9]
      have e2:ku e.kind f.lk (f.gn+1)=decide (f.lk-f.gn-1=0):=by
       unfold ku
       rw[Bool.eq_iff_iff]
       simp only[Bool.or_eq_true,decide_eq_true_eq]
       omega
      refine⟨?_,by show f.lk-(f.gn+1)=_;omega⟩
      simp only[e2,decide_eq_true_eq]
     ·have h1:o7 f e=f:=by unfold o7;rw[if_neg k3,if_neg k8,if_neg k7,if_neg k4,if_neg k9]
      rw[h1,if_neg k3,if_neg k8,if_neg k7,if_neg k9,if_neg k4,if_neg k9]
      refine⟨?_,rfl⟩
      by_cases k10:e.kind=10
      ·have g0:=hg (Or.inr k10)
       rw[if_pos k10]
       simp[ku,k10,g0]
      ·rw[if_neg k10]
       by_cases k12:e.kind=12
       ·rw[if_pos k12];simp[ku,k12]
       ·rw[if_neg k12]
        have e3:ku e.kind f.lk f.gn=false:=by
         unfold ku
         rw[Bool.or_eq_false_iff,Bool.or_eq_false_iff,decide_eq_false_iff_not,decide_eq_false_iff_not,decide_eq_false_iff_not]
         omega
        simp[e3]
theorem Jv {s s':Sh} {m:List Ev} {e:Ev} (hw:Wf s) (hi:HI s (az m) m.length) (h:RInv s m) (hs:stepS s e=some s'):RInv s' (m++[e]):=by
 obtain⟨th,t',bY,hlt,kM,_,_,hmv,_,_⟩:=xQ hw hs
 have IY:s'.aN.getD th Th.zero=t':=by rw[kM];exact aQ _ _ _ _ hlt
 have Dp:∀ i,i≠th→s'.aN.getD i Th.zero=s.aN.getD i Th.zero:=fun i hne=>by rw[kM];exact getD_set_ne _ _ _ _ _ (fun e=>hne e.symm)
 have hT:s'.aN.length=s.aN.length:=by rw[kM,List.length_set]
 have hol:(az m).out.length=(fZ m).length:=by rw[h.out];unfold AA;rw[List.length_map]
 have hbl:∀ {n b:Nat},(fZ m)[n]? =some b→b < m.length:=fun hb=>(jd.1 (List.mem_of_getElem? hb)).1
 by_cases k1:e.kind=1
 ·have hno:∀ {b:Nat},b < m.length→tJ (m++[e]) b m.length=false:=fun{b} hb=>by
   rw[Bool.eq_false_iff]
   intro hc
   obtain⟨_,h2,_,h4⟩:=gz.1 hc
   exact h4 m.length hb (Nat.le_refl _) h2 (by rw[jh];exact k1)
  have hst:az (m++[e])=⟨oW (az m).last e.th (az m).out.length,(az m).out++[kY e m.length],(az m).owned++[0]⟩:=by rw[uq];unfold dS;rw[if_pos k1]
  have hbg:fZ (m++[e])=fZ m++[m.length]:=by rw[pX,if_pos k1]
  obtain⟨n1,n2⟩:=QC (m:=m) k1
  have hmap:(fZ m).map (iM (m++[e]))=(fZ m).map (iM m):=List.map_congr_left fun b hb=>H7 (jd.1 hb).1 (hno (jd.1 hb).1)
  constructor
  ·rw[hst]
   unfold AA
   rw[hbg,List.map_append,hmap]
   show(az m).out++[kY e m.length]=_
   rw[h.out,List.map_cons,List.map_nil,n1];rfl
  ·intro n b hb
   rw[hbg]at hb
   rw[hst]
   show((az m).owned++[0])[n]? =_
   rcases aU hb with⟨rfl,rfl⟩ | ⟨hn,hb⟩
   ·rw[List.getElem?_append_right (by rw[hi.len,hol];exact Nat.le_refl _),hi.len,hol,Nat.sub_self,n2];rfl
   ·have hbm:=hbl hb
    rw[List.getElem?_append_left (by rw[hi.len,hol];exact hn),h.own n b hb,gI hbm,hno hbm]
    simp
  ·intro i hil a1 a2 b hb
   rw[hbg,hst]at hb
   rcases aU hb with⟨_,rfl⟩ | ⟨hn,hb⟩
   ·rw[n2]
   ·have hbm:=hbl hb
    rw[gI hbm,hno hbm]
    simp only[Bool.false_eq_true,if_false]
    by_cases hit:i=th
    ·exfalso
     subst hit
     have hu:(oW (az m).last e.th (az m).out.length) (i:Int)=(az m).out.length:=by unfold oW;rw[if_pos bY.symm]
     simp only[hu]at hb hn
     omega
    ·have hu:(oW (az m).last e.th (az m).out.length) (i:Int)=(az m).last i:=by unfold oW;rw[if_neg (by rw[bY];omega)]
     simp only[hu]at hb
     rw[Dp i hit]at a1 a2
     exact h.gn i (by omega) a1 a2 b hb
 by_cases k13:e.kind=13
 ·have hno:∀ {b:Nat},b < m.length→tJ (m++[e]) b m.length=false:=fun{b} hb=>by
   rw[Bool.eq_false_iff]
   intro hc
   obtain⟨_,_,h3,_⟩:=gz.1 hc
   rw[jh]at h3
   exact h3 k13
  have hst:az (m++[e])=az m:=by rw[uq];unfold dS;rw[if_neg k1,if_pos k13]
  have hbg:fZ (m++[e])=fZ m:=by rw[pX,if_neg k1,List.append_nil]
  constructor
  ·rw[hst,h.out]
   unfold AA
   rw[hbg]
   exact(List.map_congr_left fun b hb=>H7 (jd.1 hb).1 (hno (jd.1 hb).1)).symm
  ·intro n b hb
   rw[hbg]at hb
   rw[hst,h.own n b hb,gI (hbl hb),hno (hbl hb)]
   simp
  ·intro i hil a1 a2 b hb
   rw[hbg,hst]at hb
   rw[gI (hbl hb),hno (hbl hb)]
   simp only[Bool.false_eq_true,if_false]
   have hit:i≠th:=by
    rintro rfl
    rw[IY]at a1 a2
    unfold Moves at hmv
    omega
   rw[Dp i hit]at a1 a2
   exact h.gn i (by omega) a1 a2 b hb
 obtain⟨a,o,h1,h2,h3,h4,h5⟩:=yS hw hi hs k1 k13
 have hlast:∀ (q:Nat) (c:aH),(az m).last e.th < q→(az m).out[q]? =some c→c.th≠e.th:=by
  rcases hi.LV th hlt with⟨h6,-,-⟩ | ⟨a',o',-,-,-,h6,-⟩
  ·exact absurd (h3.trans bY) (h6 _ _ h1)
  ·rw[bY];exact h6
 have hM:∀ {n b:Nat},(fZ m)[n]? =some b→(tJ (m++[e]) b m.length=true↔n=(az m).last e.th):=fun hb=>Ec h hi k1 k13 h1 h3 hlast hb
 obtain⟨b0,hb0,rfl⟩:=h.TS h1
 have Kt:=hbl hb0
 have hy:tJ (m++[e]) b0 m.length=true:=(hM hb0).2 rfl
 have hst:az (m++[e])=⟨(az m).last,(az m).out.set ((az m).last e.th) (bK (iM m b0) o e m.length),(az m).owned.set ((az m).last e.th) (dY o e)⟩:=by
  rw[uq];unfold dS;rw[if_neg k1,if_neg k13,dD h1,dD h2]
 have hbg:fZ (m++[e])=fZ m:=by rw[pX,if_neg k1,List.append_nil]
 have ho:o=(jg m b0).lk-(jg m b0).gn:=by have:=h.own _ _ hb0;rw[h2]at this;exact Option.some.inj this
 have hg0:e.kind=7∨e.kind=10→(jg m b0).gn=0:=fun hk=>by
  refine h.gn th hlt ?_ ?_ b0 (by rw[←bY];exact hb0)
  all_goals (unfold Moves at hmv;omega)
 obtain⟨q1,q2⟩:=O6 (jg m b0) e m.length hg0
 have ha0:iM m b0={ (jg m b0).a with dI:=-1 }:=by
  have:(iM m b0).dI=-1:=h4
  have e1:iM m b0={ (jg m b0).a with dI:=(iM m b0).dI }:=rfl
  rw[e1,this]
 have hkl:(az m).last e.th < (az m).out.length:=(List.getElem?_eq_some_iff.1 h1).1
 constructor
 ·rw[hst]
  show(az m).out.set _ _=AA (m++[e])
  unfold AA
  rw[hbg]
  refine List.ext_getElem? fun n=>?_
  rw[List.getElem?_map]
  by_cases hn:n=(az m).last e.th
  ·subst hn
   rw[List.getElem?_set_self hkl,hb0]
   show _=some (iM (m++[e]) b0)
   rw[QB Kt hy,q1,ho,←ha0]
  ·rw[List.getElem?_set_ne (fun e=>hn e.symm),h.out]
   unfold AA
   rw[List.getElem?_map]
   cases hb:(fZ m)[n]? with
   | none=>rfl
   | some b=>
    have hf:tJ (m++[e]) b m.length=false:=by rw[Bool.eq_false_iff];exact fun hc=>hn ((hM hb).1 hc)
    show some _=some _
    rw[H7 (hbl hb) hf]
 ·intro n b hb
  rw[hbg]at hb
  rw[hst]
  show((az m).owned.set _ _)[n]? =_
  by_cases hn:n=(az m).last e.th
  ·subst hn
   obtain rfl:b0=b:=by rw[hb0]at hb;exact Option.some.inj hb
   rw[List.getElem?_set_self (by rw[hi.len];exact hkl),gI Kt,if_pos hy,q2,ho]
  ·have hf:tJ (m++[e]) b m.length=false:=by rw[Bool.eq_false_iff];exact fun hc=>hn ((hM hb).1 hc)
   rw[List.getElem?_set_ne (fun e=>hn e.symm),h.own n b hb,gI (hbl hb),hf]
   simp
 ·intro i hil a1 a2 b hb
  rw[hbg,hst]at hb
  have hb:(fZ m)[(az m).last i]? =some b:=hb
  by_cases hit:i=th
  ·subst hit
   rw[IY]at a1 a2
   rw[←bY]at hb
   obtain rfl:b0=b:=by rw[hb0]at hb;exact Option.some.inj hb
   have hk:e.kind≠9∧e.kind≠11∧1≤(s.aN.getD i Th.zero).at_∧(s.aN.getD i Th.zero).at_≤4:=by unfold Moves at hmv;omega
   have hgn:=h.gn i hlt hk.2.2.1 hk.2.2.2 b0 (by rw[←bY];exact hb0)
   rw[gI Kt,if_pos hy]
   unfold o7
   repeat' split
   all_goals first | exact hgn | omega
  ·have hf:tJ (m++[e]) b m.length=false:=by
    rw[Bool.eq_false_iff]
    intro hc
    have he:=(hM hb).1 hc
    rw[Dp i hit]at a1
    rcases hi.LV i (by omega)with⟨_,h7,_⟩ | ⟨a',o',h6,_,h7,_⟩
    ·omega
    ·rw[he,h1]at h6
     have:=Option.some.inj h6
     rw[←this,h3,bY]at h7
     omega
   rw[gI (hbl hb),hf]
   simp only[Bool.false_eq_true,if_false]
   rw[Dp i hit]at a1 a2
   exact h.gn i (by omega) a1 a2 b hb
theorem Hist.rinv {T V S:Int} {l:List Ev} {s:Sh} (h:Hist T V S l s):RInv s l:=by
 have key:∀ k,k≤l.length→∀ r,Hist T V S (l.take k) r→RInv r (l.take k):=by
  intro k
  induction k with
  | zero=>
   intro _ r hr
   have hn:(l.take 0)=[]:=rfl
   rw[hn]at hr⊢
   exact⟨rfl,fun n b hb=>(by simp[fZ]at hb),fun i _ _ _ b hb=>(by simp[fZ]at hb)⟩
  | succ k ih=>
   intro hk r hr
   obtain⟨r0,r1,g0,g1,g2⟩:=h.step (k:=k) hk
   have hr1:r1=r:=by have:=g2.run;rw[hr.run]at this;exact(Option.some.inj this).symm
   subst hr1
   have hI:=g0.hi
   rw[List.take_succ_eq_append_getElem hk]
   exact Jv g0.wf hI (ih (by omega) r0 g0) g1
 have:=key l.length (Nat.le_refl _) s (by rw[List.take_length];exact h)
 rwa [List.take_length]at this
theorem Hist.AA {T V S:Int} {l:List Ev} {s:Sh} (h:Hist T V S l s):(az l).out=AA l:=h.rinv.out
theorem pU {m r:List Ev} {i:Nat} (h:i < m.length):dL (m++r) i=dL m i:=by
 unfold dL
 rw[List.getD_eq_getElem?_getD,List.getD_eq_getElem?_getD,List.getElem?_append_left h]
theorem Qa {m r:List Ev} {b i:Nat} (h:i < m.length):tJ (m++r) b i=tJ m b i:=by
 rw[Bool.eq_iff_iff,gz,gz,pU h]
 constructor
 ·rintro⟨h1,h2,h3,h4⟩
  rw[pU (show b < m.length by omega)]at h2 h4
  exact⟨h1,h2,h3,fun j a1 a2 a3=>by have:=h4 j a1 a2;rw[pU (show j < m.length by omega)]at this;exact this a3⟩
 ·rintro⟨h1,h2,h3,h4⟩
  rw[pU (show b < m.length by omega)]
  exact⟨h1,h2,h3,fun j a1 a2 a3=>by rw[pU (show j < m.length by omega)]at a3⊢;exact h4 j a1 a2 a3⟩
theorem Oa (m:List Ev):∀ r:List Ev,∃ t,fZ (m++r)=fZ m++t:=by
 intro r
 induction r generalizing m with
 | nil=>exact⟨[],by simp⟩
 | cons e r ih=>
  obtain⟨t,ht⟩:=ih (m++[e])
  rw[List.append_assoc,List.singleton_append]at ht
  exact⟨_,by rw[ht,pX,List.append_assoc]⟩
theorem EF {l:List Ev} {n n' b:Nat} (h:(fZ l)[n]? =some b) (h':(fZ l)[n']? =some b):n=n':=by
 rcases Nat.lt_trichotomy n n' with h1 | h1 | h1
 ·have:=wL h h' h1;omega
 ·exact h1
 ·have:=wL h' h h1;omega
theorem Hist.Sz {T V S:Int} {l:List Ev} {s:Sh} (h:Hist T V S l s) {i:Nat} (hi:i < l.length) {n b:Nat} (hb:(fZ l)[n]? =some b):tJ l b i=true↔mD l i=n:=by
 obtain⟨r,r',hr,hs,hr'⟩:=h.step hi
 have hlen:(l.take i).length=i:=by rw[List.length_take,Nat.min_eq_left (Nat.le_of_lt hi)]
 have hI:=hr.hi
 have hR:=hr.rinv
 have hbk:=jd.1 (List.mem_of_getElem? hb)
 have e1:l=(l.take i++[l[i]])++l.drop (i+1):=by rw[←List.take_succ_eq_append_getElem hi,List.take_append_drop]
 have hMe:tJ l b i=tJ (l.take i++[l[i]]) b i:=by
  conv=>lhs;rw[e1]
  exact Qa (by rw[List.length_append,hlen];simp)
 have hee:dL l i=l[i]:=by unfold dL;rw[List.getD_eq_getElem?_getD,List.getElem?_eq_getElem hi];rfl
 obtain⟨t,ht⟩:=Oa (l.take i++[l[i]]) (l.drop (i+1))
 rw[←e1,pX,hlen]at ht
 rw[rE hi]
 unfold Fb
 have hol:(az (l.take i)).out.length=(fZ (l.take i)).length:=by rw[hR.out];unfold Go.Proofs.YtcddlnmcjmhbcaaDoor.AA;rw[List.length_map]
 by_cases k1:l[i].kind=1
 ·rw[if_pos k1,hol]
  rw[if_pos k1]at ht
  have hbi:(fZ l)[(fZ (l.take i)).length]? =some i:=by
   rw[ht,List.append_assoc,List.getElem?_append_right (Nat.le_refl _),Nat.sub_self];rfl
  constructor
  ·intro hc
   obtain⟨h1,h2,_,h4⟩:=gz.1 hc
   have:b=i:=by
    rcases Nat.lt_or_eq_of_le h1 with h5 | h5
    ·exact absurd (by rw[hee];exact k1) (h4 i h5 (Nat.le_refl _) h2)
    ·exact h5
   subst this
   rw[EF hbi hb]
  ·intro hc
   have:n=(fZ (l.take i)).length:=by omega
   subst this
   rw[hbi]at hb
   obtain rfl:=Option.some.inj hb
   exact gz.2 ⟨Nat.le_refl _,rfl,by rw[hee];omega,fun j a1 a2=>by omega⟩
 ·rw[if_neg k1]
  by_cases k13:l[i].kind=13
  ·rw[if_pos k13]
   constructor
   ·intro hc
    obtain⟨_,_,h3,_⟩:=gz.1 hc
    exact absurd (by rw[hee];exact k13) h3
   ·intro hc;omega
  ·rw[if_neg k13]
   obtain⟨a,o,h1,h2,h3,h4,h5⟩:=yS hr.wf hI hs k1 k13
   obtain⟨th,t',bY,hlt,_,_,_,_,_,_⟩:=xQ hr.wf hs
   have hlast:∀ (q:Nat) (c:aH),(az (l.take i)).last l[i].th < q→(az (l.take i)).out[q]? =some c→c.th≠l[i].th:=by
    rcases hI.LV th hlt with⟨h6,-,-⟩ | ⟨a',o',-,-,-,h6,-⟩
    ·exact absurd (h3.trans bY) (h6 _ _ h1)
    ·rw[bY];exact h6
   rw[if_neg k1,List.append_nil]at ht
   obtain⟨b0,hb0,rfl⟩:=hR.TS h1
   have YE:(fZ l)[(az (l.take i)).last l[i].th]? =some b0:=by
    rw[ht,List.getElem?_append_left (List.getElem?_eq_some_iff.1 hb0).1];exact hb0
   have aam:b0 < i:=by have:=(jd.1 (List.mem_of_getElem? hb0)).1;omega
   have hcast:(((az (l.take i)).last l[i].th:Nat):Int)=(n:Int)↔n=(az (l.take i)).last l[i].th:=by omega
   rw[hcast]
   by_cases hbi:b < i
   ·have hbm:b∈fZ (l.take i):=by
     refine jd.2 ⟨by omega,?_⟩
     have h6:=hbk.2
     rw[e1,List.append_assoc,pU (by omega)]at h6
     exact h6
    obtain⟨n',hn'⟩:=List.getElem?_of_mem hbm
    have Yt:(fZ l)[n']? =some b:=by rw[ht,List.getElem?_append_left (List.getElem?_eq_some_iff.1 hn').1];exact hn'
    have:=EF Yt hb
    subst this
    rw[hMe]
    have h7:=Ec hR hI k1 k13 h1 h3 hlast hn'
    rw[hlen]at h7
    exact h7
   ·constructor
    ·intro hc
     have:=(gz.1 hc).1
     have hbe:b=i:=by omega
     subst hbe
     rw[hee]at hbk
     exact absurd hbk.2 k1
    ·intro hc
     subst hc
     rw[YE]at hb
     have:=Option.some.inj hb
     omega
def qV (o:List Int) (m:List Nat) (n:Int):List Int:=m.foldl (fun o i=>o.set i n) o
def yf (l:List Ev) (p:List Int×Int) (b:Nat):List Int×Int:=if Fe l b=true then(qV p.1 (dZ l b) p.2,p.2+1)else p
def splitK (l:List Ev) (k:Nat):List Int×Int:=(List.range k).foldl (yf l) (List.replicate l.length (-1),0)
theorem oC (l:List Ev) (k:Nat):splitK l (k+1)=yf l (splitK l k) k:=by
 unfold splitK;rw[List.range_succ,List.foldl_append];rfl
theorem vW:∀ (m:List Nat) (o:List Int) (n:Int),(qV o m n).length=o.length
 | [],o,n=>rfl
 | i :: m,o,n=>by
  show(qV (o.set i n) m n).length=_
  rw[vW m,List.length_set]
theorem Am (n:Int) (i:Nat):∀ (m:List Nat) (o:List Int),i < o.length→(qV o m n)[i]? =if i∈m then some n else o[i]?
 | [],o,h=>by simp[qV]
 | j :: m,o,h=>by
  show(qV (o.set j n) m n)[i]? =_
  rw[Am n i m _ (by rw[List.length_set];exact h)]
  by_cases h1:i∈m
  ·simp[h1]
  ·by_cases h2:j=i
   ·subst h2;simp[h1,h]
   ·simp[h1,h2]
    intro e;exact absurd e.symm h2
theorem kV (l:List Ev):∀ k,(splitK l k).1.length=l.length
 | 0=>by simp[splitK]
 | k+1=>by
  rw[oC]
  unfold yf
  split
  ·rw[vW];exact kV l k
  ·exact kV l k
theorem qU (l:List Ev):∀ k,(splitK l k).2=(((List.range k).filter (Fe l)).length:Int)
 | 0=>rfl
 | k+1=>by
  rw[oC,List.range_succ,List.filter_append,List.length_append,List.filter_cons,List.filter_nil]
  unfold yf
  cases Fe l k with
  | true=>simp[qU l k]
  | false=>simp[qU l k]
theorem oD {p:Nat→Bool}:∀ {n k:Nat},k < n→p k=true→((List.range n).filter p)[((List.range k).filter p).length]? =some k
 | 0,k,h,_=>absurd h (Nat.not_lt_zero _)
 | n+1,k,h,hp=>by
  rw[List.range_succ,List.filter_append]
  by_cases he:k=n
  ·subst he
   rw[List.getElem?_append_right (Nat.le_refl _),Nat.sub_self,List.filter_cons,if_pos hp];rfl
  ·have h1:=oD (p:=p) (n:=n) (k:=k) (by omega) hp
   rw[List.getElem?_append_left (List.getElem?_eq_some_iff.1 h1).1];exact h1
theorem Hist.splitK {T V S:Int} {l:List Ev} {s:Sh} (h:Hist T V S l s) {i:Nat} (hi:i < l.length):∀ k,k≤l.length→(Go.Proofs.YtcddlnmcjmhbcaaDoor.splitK l k).1[i]? =some (if mD l i < (Go.Proofs.YtcddlnmcjmhbcaaDoor.splitK l k).2 then mD l i else -1)
 | 0,_=>by
  have h0:-1≤mD l i:=by rw[rE hi];unfold Fb;split;omega;split <;> omega
  show(List.replicate l.length (-1:Int))[i]? =some (if mD l i < 0 then mD l i else -1)
  rw[List.getElem?_replicate,if_pos hi]
  split
  ·congr 1;omega
  ·rfl
 | k+1,hk=>by
  have ih:=h.splitK hi k (by omega)
  rw[oC]
  unfold yf
  split
  ·rename_i hB
   have hn:=qU l k
   have hbk:(fZ l)[((List.range k).filter (Fe l)).length]? =some k:=oD (by omega) hB
   have hof:=h.Sz hi hbk
   rw[←hn]at hof
   dsimp only
   rw[Am _ _ _ _ (by rw[kV];exact hi),ih]
   by_cases hm:i∈dZ l k
   ·rw[if_pos hm]
    have:=hof.1 (jY.1 hm).2
    rw[if_pos (by omega),this]
   ·rw[if_neg hm]
    have:mD l i≠(Go.Proofs.YtcddlnmcjmhbcaaDoor.splitK l k).2:=fun hc=>hm (jY.2 ⟨hi,hof.2 hc⟩)
    by_cases h1:mD l i < (Go.Proofs.YtcddlnmcjmhbcaaDoor.splitK l k).2
    ·rw[if_pos h1,if_pos (by omega)]
    ·rw[if_neg h1,if_neg (by omega)]
  ·exact ih
def nD (l:List Ev):List Int:=(splitK l l.length).1
theorem Hist.nD {T V S:Int} {l:List Ev} {s:Sh} (h:Hist T V S l s):Fa l=Go.Proofs.YtcddlnmcjmhbcaaDoor.nD l:=by
 rw[BU]
 refine List.ext_getElem? fun i=>?_
 by_cases hi:i < l.length
 ·rw[List.getElem?_map,List.getElem?_range hi]
  unfold Go.Proofs.YtcddlnmcjmhbcaaDoor.nD
  rw[h.splitK hi l.length (Nat.le_refl _)]
  show some (mD l i)=_
  congr 1
  rw[qU]
  by_cases k13:l[i].kind=13
  ·have:mD l i=-1:=by rw[rE hi];unfold Fb;rw[if_neg (by omega),if_pos k13]
   rw[this];split <;> rfl
  ·obtain⟨k,a,hE⟩:=h.each hi k13
   have h1:=hE.of
   have h2:=hE.lt
   rw[h.AA]at h2
   unfold Go.Proofs.YtcddlnmcjmhbcaaDoor.AA fZ at h2
   rw[List.length_map]at h2
   rw[if_pos (by omega)]
 ·rw[List.getElem?_eq_none (by simp;omega),List.getElem?_eq_none (by unfold Go.Proofs.YtcddlnmcjmhbcaaDoor.nD;rw[kV];omega)]
end Go.Proofs.YtcddlnmcjmhbcaaDoor
namespace Go.Proofs.YtcddlnmcjmhbcaaDoor
set_option linter.unusedVariables false
set_option linter.unusedSimpArgs false
open Go Go.RowKit
def Rw (w:World) (l:List (Int×Int)) (v:Value):Prop:=
 ∃ a cap,v=.slice a l.length cap∧l.length≤1048576∧(l≠[]→∃ b o,a=some ⟨b,o,none⟩∧∀ k (h:k < l.length),w.cell? ⟨b,o+k*2,none⟩=some (.int .i64 l[k].1)∧w.cell? ⟨b,o+k*2+1,none⟩=some (.int .i64 l[k].2))
def U1 (w:World) (l:List Int) (v:Value):Prop:=
 ∃ a cap,v=.slice a l.length cap∧l.length≤1048576∧(l≠[]→∃ b o,a=some ⟨b,o,none⟩∧∀ k (h:k < l.length),w.cell? ⟨b,o+k,none⟩=some (.int .i64 l[k]))
structure QZ (w:World) (b o:Nat) (a:aH) (r u:Value):Prop where
 c0:w.cell? ⟨b,o,none⟩=some (.int .i64 a.th)
 c1:w.cell? ⟨b,o+1,none⟩=some (.int .i64 a.tx)
 c2:w.cell? ⟨b,o+2,none⟩=some (.int .i64 a.from_)
 c3:w.cell? ⟨b,o+3,none⟩=some (.int .i64 a.dI)
 c4:w.cell? ⟨b,o+4,none⟩=some (.int .i64 a.rv)
 c5:w.cell? ⟨b,o+5,none⟩=some (.int .i64 a.wv)
 c6:w.cell? ⟨b,o+6,none⟩=some (.bool a.com)
 c7:w.cell? ⟨b,o+7,none⟩=some r
 c8:w.cell? ⟨b,o+8,none⟩=some u
 reads:Rw w a.reads r
 writes:Rw w a.writes u
def OX (w:World) (L:List aH) (v:Value):Prop:=
 ∃ a cap,v=.slice a L.length cap∧L.length≤1048576∧(L≠[]→∃ b o,a=some ⟨b,o,none⟩∧∀ k (h:k < L.length),∃ r u,QZ w b (o+k*9) L[k] r u)
theorem Rw.below {w w':World} (hb:Below w.heap.size w w') {l:List (Int×Int)} {v:Value} (h:Rw w l v):Rw w' l v:=by
 obtain⟨a,cap,h1,h2,h4⟩:=h
 refine⟨a,cap,h1,h2,fun hn=>?_⟩
 obtain⟨b,o,h5,h6⟩:=h4 hn
 exact⟨b,o,h5,fun k hk=>⟨later hb (h6 k hk).1,later hb (h6 k hk).2⟩⟩
theorem U1.below {w w':World} (hb:Below w.heap.size w w') {l:List Int} {v:Value} (h:U1 w l v):U1 w' l v:=by
 obtain⟨a,cap,h1,h2,h4⟩:=h
 refine⟨a,cap,h1,h2,fun hn=>?_⟩
 obtain⟨b,o,h5,h6⟩:=h4 hn
 exact⟨b,o,h5,fun k hk=>later hb (h6 k hk)⟩
theorem QZ.below {w w':World} (hb:Below w.heap.size w w') {b o:Nat} {a:aH} {r u:Value} (h:QZ w b o a r u):QZ w' b o a r u:=
 ⟨later hb h.c0,later hb h.c1,later hb h.c2,later hb h.c3,later hb h.c4,later hb h.c5,later hb h.c6,later hb h.c7,later hb h.c8,h.reads.below hb,h.writes.below hb⟩
theorem OX.below {w w':World} (hb:Below w.heap.size w w') {L:List aH} {v:Value} (h:OX w L v):OX w' L v:=by
 obtain⟨a,cap,h1,h2,h4⟩:=h
 refine⟨a,cap,h1,h2,fun hn=>?_⟩
 obtain⟨b,o,h5,h6⟩:=h4 hn
 refine⟨b,o,h5,fun k hk=>?_⟩
 obtain⟨r,u,h7⟩:=h6 k hk
 exact⟨r,u,h7.below hb⟩
end Go.Proofs.YtcddlnmcjmhbcaaDoor
-- short
