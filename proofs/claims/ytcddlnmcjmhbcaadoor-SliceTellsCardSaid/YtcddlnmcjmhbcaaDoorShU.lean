/-
  The checker's machine: what each step leaves as it was; how many commits; traces in memory. Nothing of the program.
-/
import Derived.Test.YtcddlnmcjmhbcaaDoorRgF
namespace Go.Proofs.YtcddlnmcjmhbcaaDoor
set_option linter.unusedVariables false
set_option linter.unusedSimpArgs false
theorem Eo {s s':Sh} {t:Th} {e:Ev} (h:nZ s t e=some s'):∃ t',s'.aN=s.aN.set e.th.toNat t'∧t'.aP≤t.aP+1∧s'.vars=s.vars∧s'.aX.length=s.aX.length:=by
 unfold nZ at h
 by_cases k1:e.kind=1
 ·rw[if_pos k1]at h
  unfold iU at h;split at h
  ·cases h;exact⟨_,rfl,by simp only[];omega,rfl,rfl⟩
  ·cases h
 rw[if_neg k1]at h
 by_cases k2:e.kind=2
 ·rw[if_pos k2]at h
  unfold lJ at h;split at h
  ·cases h;exact⟨_,rfl,by simp only[];omega,rfl,by simp[Sh.aI,Sh.setSt]⟩
  ·cases h
 rw[if_neg k2]at h
 by_cases k3:e.kind=3
 ·rw[if_pos k3]at h
  unfold lK at h;split at h
  ·cases h;exact⟨_,rfl,by simp only[];omega,rfl,rfl⟩
  ·cases h
 rw[if_neg k3]at h
 by_cases k4:e.kind=4
 ·rw[if_pos k4]at h
  unfold mF at h;split at h
  ·cases h;exact⟨_,rfl,by simp only[];omega,rfl,by simp[Sh.aI,Sh.setSt]⟩
  ·cases h
 rw[if_neg k4]at h
 by_cases k5:e.kind=5
 ·rw[if_pos k5]at h
  unfold kR at h;split at h
  ·cases h;exact⟨_,rfl,by simp only[];omega,rfl,rfl⟩
  ·cases h
 rw[if_neg k5]at h
 by_cases k6:e.kind=6
 ·rw[if_pos k6]at h
  unfold ji at h;split at h
  ·cases h;exact⟨_,rfl,by simp only[];omega,rfl,rfl⟩
  ·cases h
 rw[if_neg k6]at h
 by_cases k7:e.kind=7
 ·rw[if_pos k7]at h
  unfold eu at h;split at h
  ·cases h;exact⟨_,rfl,by simp only[];omega,rfl,rfl⟩
  ·split at h
   ·cases h;exact⟨_,rfl,by simp only[];omega,rfl,rfl⟩
   ·cases h
 rw[if_neg k7]at h
 by_cases k8:e.kind=8
 ·rw[if_pos k8]at h
  unfold jb at h;split at h
  ·cases h;exact⟨_,rfl,by simp only[];omega,rfl,rfl⟩
  ·cases h
 rw[if_neg k8]at h
 by_cases k9:e.kind=9
 ·rw[if_pos k9]at h
  unfold iT at h;split at h
  ·cases h;exact⟨_,rfl,by split <;> simp only[] <;> omega,rfl,by simp[Sh.aI,Sh.setSt]⟩
  ·cases h
 rw[if_neg k9]at h
 by_cases k10:e.kind=10
 ·rw[if_pos k10]at h
  unfold jk at h;split at h
  ·cases h;exact⟨_,rfl,by simp only[];omega,rfl,rfl⟩
  ·cases h
 rw[if_neg k10]at h
 by_cases k11:e.kind=11
 ·rw[if_pos k11]at h
  unfold jX at h;split at h
  ·cases h;exact⟨_,rfl,by simp only[];omega,rfl,by simp[Sh.aI,Sh.setSt]⟩
  ·cases h
 rw[if_neg k11]at h
 by_cases k12:e.kind=12
 ·rw[if_pos k12]at h
  unfold oz at h;split at h
  ·cases h;exact⟨_,rfl,by simp only[];omega,rfl,rfl⟩
  ·cases h
 rw[if_neg k12]at h
 unfold ny at h;split at h
 ·cases h;exact⟨_,rfl,by simp only[];omega,rfl,rfl⟩
 ·cases h
theorem wM {s s':Sh} {e:Ev} (h:stepS s e=some s'):∃ t',s'.aN=s.aN.set e.th.toNat t'∧t'.aP≤(s.th e.th).aP+1∧s'.vars=s.vars∧s'.aX.length=s.aX.length:=by
 unfold stepS at h
 split at h
 ·exact Eo h
 ·cases h
def Xm (s:Sh) (n:Nat):Prop:=∀ i,i < s.aN.length→(s.aN.getD i Th.zero).aP≤(n:Int)
theorem Xm.step {s s':Sh} {e:Ev} {n:Nat} (hc:Xm s n) (h:stepS s e=some s'):Xm s' (n+1):=by
 obtain⟨t',h1,h2,-,-⟩:=wM h
 intro i hi
 rw[h1]at hi⊢
 rw[List.length_set]at hi
 by_cases he:e.th.toNat=i
 ·subst he
  rw[aQ _ _ _ _ hi]
  have:=hc _ hi
  unfold Sh.th at h2
  omega
 ·rw[getD_set_ne _ _ _ _ _ he]
  have:=hc _ hi
  omega
theorem PW (T V S:Int):Xm (fF T V S) 0:=by
 intro i hi
 simp only[fF,List.length_replicate]at hi
 simp[fF,List.getD,List.getElem?_replicate,hi,Th.zero]
structure Behind (T V S:Int) (l:List Ev) (i:Nat) (s:Sh):Prop where
 run:jc (fF T V S) (l.take i)=some s
 wf:Wf s
 cm:Xm s i
 nt:s.aN.length=T.toNat
 nv:s.vars=V
 ns:s.aX.length=S.toNat
theorem Behind.zero {T V S:Int} (h:eY T V S=true) (l:List Ev):Behind T V S l 0 (fF T V S):=
 ⟨rfl,xN h,PW T V S,by simp[fF],rfl,by simp[fF]⟩
theorem Behind.step {T V S:Int} {l:List Ev} {i:Nat} {s s':Sh} (h:Behind T V S l i s) (hi:i < l.length) (hs:stepS s l[i]=some s'):Behind T V S l (i+1) s':=by
 obtain⟨t',h1,-,h3,h4⟩:=wM hs
 refine⟨?_,qR h.wf hs,h.cm.step hs,by rw[h1,List.length_set];exact h.nt,by rw[h3];exact h.nv,by rw[h4];exact h.ns⟩
 rw[List.take_succ_eq_append_getElem hi,vX,h.run];exact hs
theorem CP {s s':Sh} (l m:List Ev):jc s l=some s'→jJ s (l++m)=l.length+jJ s' m:=by
 induction l generalizing s with
 | nil=>intro h;cases h;simp
 | cons e l ih=>
  intro h
  unfold jc at h
  simp only[List.cons_append,jJ,List.length_cons]
  cases hs:stepS s e with
  | none=>rw[hs]at h;cases h
  | some r=>
   rw[hs]at h
   have:=ih h
   simp only[this];omega
theorem Behind.bad {T V S:Int} {l:List Ev} {i:Nat} {s:Sh} (h:Behind T V S l i s) (hi:i < l.length) (hs:stepS s l[i]=none):jJ (fF T V S) l=i:=by
 have e:l=l.take i++(l[i] :: l.drop (i+1)):=by rw[←List.drop_eq_getElem_cons hi,List.take_append_drop]
 conv=>lhs;rw[e]
 rw[CP _ _ h.run,jJ,hs,List.length_take]
 simp only[];omega
theorem Behind.all {T V S:Int} {l:List Ev} {s:Sh} (h:Behind T V S l l.length s):jJ (fF T V S) l=l.length:=by
 have:=h.run
 rw[List.take_length]at this
 rw[Bc,this];rfl
theorem xe {T V S:Int} {l:List Ev} (h:eY T V S=false):aW T V S l=(0,1):=by unfold aW;rw[if_pos h]
theorem CS {T V S:Int} {l:List Ev} (h:eY T V S=true) (hl:1048576 < l.length):aW T V S l=(0,40):=by unfold aW;rw[if_neg (by rw[h];decide),if_pos hl]
theorem Behind.zD {T V S:Int} {l:List Ev} {i:Nat} {s:Sh} (h:Behind T V S l i s) (hz:eY T V S=true) (hl:l.length≤1048576) (hi:i < l.length) (hs:stepS s l[i]=none):aW T V S l=((i:Int),4):=by
 unfold aW;rw[if_neg (by rw[hz];decide),if_neg (by omega),h.bad hi hs,if_pos hi]
theorem Behind.zF {T V S:Int} {l:List Ev} {s:Sh} (h:Behind T V S l l.length s) (hz:eY T V S=true) (hl:l.length≤1048576):aW T V S l=((l.length:Int),0):=by
 unfold aW;rw[if_neg (by rw[hz];decide),if_neg (by omega),h.all,if_neg (by omega)]
end Go.Proofs.YtcddlnmcjmhbcaaDoor
-- short
