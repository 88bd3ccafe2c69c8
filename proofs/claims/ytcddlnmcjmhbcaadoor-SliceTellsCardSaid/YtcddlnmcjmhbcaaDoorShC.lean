/-
  The checker in memory; walks: what its methods call.
-/
import Derived.Test.YtcddlnmcjmhbcaaDoorProg
import Derived.Test.YtcddlnmcjmhbcaaDoorRgG
import Derived.Test.YtcddlnmcjmhbcaaDoorRgF
import Derived.Deep.QuietTactic
import Derived.BigQuiet
import Derived.Deep.RegionHeld3
import Derived.Laws.BitsAll
namespace Go.Proofs.YtcddlnmcjmhbcaaDoor
set_option linter.unusedVariables false
open Go Go.RowKit
def vU (t:Th):List Value:=[.int .i64 t.at_,.int .i64 t.aP,.int .i64 t.rv,.int .i64 t.wv,.int .i64 t.dJ,.int .i64 t.v,.int .u32 (t.read:Int),.int .u32 (t.owned:Int),.int .u32 (t.stored:Int),.int .u32 (t.check:Int),.int .i64 t.locked,.int .i64 t.var,.bool t.full]
def lU (p:Int×Int):List Value:=[.int .i64 p.1,.int .i64 p.2]
structure aY (w:World) (c tb sb T n:Nat) (vars clock ev:Int) (R S:List (List Value)):Prop where
 ck:aA w c #[.int .i64 vars,.int .i64 clock,.int .i64 ev,.slice (some ⟨tb,0,none⟩) T T,.slice (some ⟨sb,0,none⟩) n n] 85
 th:aA w tb (fH R) 93
 st:aA w sb (fH S) 83
 ne:c≠tb∧c≠sb∧tb≠sb
 lt:∀ r∈R,r.length=13
 ls:∀ r∈S,r.length=2
 nt:R.length=T
 ns:S.length=n
def fK (w:World) (c tb sb:Nat) (s:Sh) (ev:Nat):Prop:=aY w c tb sb s.aN.length s.aX.length s.vars s.clock ev (s.aN.map vU) (s.aX.map lU)
section
variable {w:World} {c tb sb T n:Nat} {vars clock ev:Int} {R S:List (List Value)}
theorem aY.below {w':World} (h:aY w c tb sb T n vars clock ev R S) (hb:Below w.heap.size w w'):aY w' c tb sb T n vars clock ev R S:=
 ⟨h.ck.below hb,h.th.below hb,h.st.below hb,h.ne,h.lt,h.ls,h.nt,h.ns⟩
theorem aY.drew (h:aY w c tb sb T n vars clock ev R S):aY w.drew c tb sb T n vars clock ev R S:=⟨h.ck.drew,h.th.drew,h.st.drew,h.ne,h.lt,h.ls,h.nt,h.ns⟩
theorem aY.drewN (h:aY w c tb sb T n vars clock ev R S) (m:Nat):aY (w.drewN m) c tb sb T n vars clock ev R S:=h.below (ai (af _) m)
theorem aY.alloc (h:aY w c tb sb T n vars clock ev R S) (o:Obj):aY (w.alloc o) c tb sb T n vars clock ev R S:=h.below (ah (af _) o)
theorem aY.jO (h:aY w c tb sb T n vars clock ev R S) {i k:Nat} (v:Value) (hi:i < T) (hk:k < 13):aY (w.setCell ⟨tb,i*13+k,none⟩ v) c tb sb T n vars clock ev (R.modify i (fun r=>r.set k v)) S:=
 ⟨h.ck.aC _ _ (by simpa using h.ne.1),by rw[←A7 h.lt i k v (by rw[h.nt];exact hi) hk];exact h.th.set _ _,h.st.aC _ _ (by simpa using h.ne.2.2.symm),h.ne,yE h.lt _ _ (by simp),h.ls,by simp[h.nt],h.ns⟩
theorem aY.gU (h:aY w c tb sb T n vars clock ev R S) {i:Nat} (v:Value) (hi:i < T):aY (w.setCell ⟨tb,i*13,none⟩ v) c tb sb T n vars clock ev (R.modify i (fun r=>r.set 0 v)) S:=h.jO (k:=0) v hi (by omega)
theorem aY.jP (h:aY w c tb sb T n vars clock ev R S) {i k:Nat} (v:Value) (hi:i < n) (hk:k < 2):aY (w.setCell ⟨sb,i*2+k,none⟩ v) c tb sb T n vars clock ev R (S.modify i (fun r=>r.set k v)):=
 ⟨h.ck.aC _ _ (by simpa using h.ne.2.1),h.th.aC _ _ (by simpa using h.ne.2.2),by rw[←A7 h.ls i k v (by rw[h.ns];exact hi) hk];exact h.st.set _ _,h.ne,h.lt,yE h.ls _ _ (by simp),h.nt,by simp[h.ns]⟩
theorem aY.gV (h:aY w c tb sb T n vars clock ev R S) {i:Nat} (v:Value) (hi:i < n):aY (w.setCell ⟨sb,i*2,none⟩ v) c tb sb T n vars clock ev R (S.modify i (fun r=>r.set 0 v)):=h.jP (k:=0) v hi (by omega)
theorem aY.di (h:aY w c tb sb T n vars clock ev R S) (x:Int):aY (w.setCell ⟨c,1,none⟩ (.int .i64 x)) c tb sb T n vars x ev R S:=
 ⟨h.ck.set 1 _,h.th.aC _ _ (by simpa using h.ne.1.symm),h.st.aC _ _ (by simpa using h.ne.2.1.symm),h.ne,h.lt,h.ls,h.nt,h.ns⟩
theorem aY.Si (h:aY w c tb sb T n vars clock ev R S) (x:Int):aY (w.setCell ⟨c,2,none⟩ (.int .i64 x)) c tb sb T n vars clock x R S:=
 ⟨h.ck.set 2 _,h.th.aC _ _ (by simpa using h.ne.1.symm),h.st.aC _ _ (by simpa using h.ne.2.1.symm),h.ne,h.lt,h.ls,h.nt,h.ns⟩
end
theorem Gn {α:Type} (L:List α) (f:α→List Value) (i:Nat) (g:List Value→List Value) (x:α) (hi:i < L.length) (h:g (f L[i])=f x):(L.map f).modify i g=(L.set i x).map f:=by
 rw[zV (L.map f) i g (by simpa using hi) (r:=f x) (by simpa using h),List.map_set]
section
variable {w:World} {c tb sb:Nat} {s:Sh} {ev:Nat}
theorem fK.cells (h:fK w c tb sb s ev):w.cell? ⟨c,0,none⟩=some (.int .i64 s.vars)∧w.cell? ⟨c,1,none⟩=some (.int .i64 s.clock)∧w.cell? ⟨c,2,none⟩=some (.int .i64 (ev:Int))∧w.cell? ⟨c,3,none⟩=some (.slice (some ⟨tb,0,none⟩) s.aN.length s.aN.length)∧w.cell? ⟨c,4,none⟩=some (.slice (some ⟨sb,0,none⟩) s.aX.length s.aX.length):=by
 refine⟨h.ck.cell 0 rfl,h.ck.cell 1 rfl,h.ck.cell 2 rfl,?_,?_⟩
 ·exact h.ck.cell 3 rfl
 ·exact h.ck.cell 4 rfl
theorem fK.t (h:fK w c tb sb s ev) {i:Nat} (hi:i < s.aN.length) {t:Th} (ht:s.aN.getD i Th.zero=t):
  w.cell? ⟨tb,i*13,none⟩=some (.int .i64 t.at_)∧w.cell? ⟨tb,i*13+1,none⟩=some (.int .i64 t.aP)∧w.cell? ⟨tb,i*13+2,none⟩=some (.int .i64 t.rv)∧w.cell? ⟨tb,i*13+3,none⟩=some (.int .i64 t.wv)∧w.cell? ⟨tb,i*13+4,none⟩=some (.int .i64 t.dJ)∧w.cell? ⟨tb,i*13+5,none⟩=some (.int .i64 t.v)∧
   w.cell? ⟨tb,i*13+6,none⟩=some (.int .u32 (t.read:Int))∧w.cell? ⟨tb,i*13+7,none⟩=some (.int .u32 (t.owned:Int))∧w.cell? ⟨tb,i*13+8,none⟩=some (.int .u32 (t.stored:Int))∧w.cell? ⟨tb,i*13+9,none⟩=some (.int .u32 (t.check:Int))∧w.cell? ⟨tb,i*13+10,none⟩=some (.int .i64 t.locked)∧w.cell? ⟨tb,i*13+11,none⟩=some (.int .i64 t.var)∧w.cell? ⟨tb,i*13+12,none⟩=some (.bool t.full):=by
 have hg:∀ k,k < 13→(fH (s.aN.map vU))[i*13+k]? =(vU t)[k]?:=by
  intro k hk
  rw[wI h.lt i k (by simpa using hi) hk,List.getElem_map]
  have:s.aN[i]=t:=by rw[←ht];simp[List.getD,hi]
  rw[this]
 refine⟨h.th.cell _ (hg 0 (by omega)),h.th.cell _ (hg 1 (by omega)),h.th.cell _ (hg 2 (by omega)),h.th.cell _ (hg 3 (by omega)),h.th.cell _ (hg 4 (by omega)),h.th.cell _ (hg 5 (by omega)),h.th.cell _ (hg 6 (by omega)),h.th.cell _ (hg 7 (by omega)),h.th.cell _ (hg 8 (by omega)),h.th.cell _ (hg 9 (by omega)),h.th.cell _ (hg 10 (by omega)),h.th.cell _ (hg 11 (by omega)),h.th.cell _ (hg 12 (by omega))⟩
theorem fK.si (h:fK w c tb sb s ev) {i:Nat} (hi:i < s.aX.length):w.cell? ⟨sb,i*2,none⟩=some (.int .i64 (s.own i))∧w.cell? ⟨sb,i*2+1,none⟩=some (.int .i64 (s.jD i)):=by
 have hg:∀ k,k < 2→(fH (s.aX.map lU))[i*2+k]? =(lU (s.aX.getD i (-1,0)))[k]?:=by
  intro k hk
  rw[wI h.ls i k (by simpa using hi) hk,List.getElem_map]
  simp[List.getD,hi]
 exact⟨h.st.cell _ (hg 0 (by omega)),h.st.cell _ (hg 1 (by omega))⟩
set_option maxRecDepth 100000 in
set_option maxHeartbeats 4000000 in
theorem nX (h:fK w c tb sb s ev) (i:Nat) (hi:i < s.aX.length):Calls Tryd.prog 79 #[.pointer (some ⟨c,0,none⟩),.int .i64 (i:Int)] w fun e w'=>e=.returned (.bool (s.own i== -1))∧w=w':=by
 have c4:=h.cells.2.2.2.2
 have s0:=(h.si hi).1
 have g:(0:Int)≤(i:Int):=by omega
 clear h
 go_enter Tryd.func79,Tryd.ntmps79
 go_wp2_with fail
 go_ret
 exact⟨rfl,rfl⟩
set_option maxRecDepth 100000 in
set_option maxHeartbeats 4000000 in
theorem wE (h:fK w c tb sb s ev) (i:Nat) (hi:i < s.aX.length) {th:Nat} (ht:th < s.aN.length) {t:Th} (he:s.aN.getD th Th.zero=t):Calls Tryd.prog 83 #[.pointer (some ⟨c,0,none⟩),.int .i64 (i:Int),.pointer (some ⟨tb,th*13,none⟩)] w fun e w'=>e=.returned (.bool (decide (t.rv < s.jD i)))∧∃ n,w'=w.drewN n:=by
 have c4:=h.cells.2.2.2.2
 have s0:=(h.si hi).2
 have t2:=(h.t ht he).2.2.1
 have g:(0:Int)≤(i:Int):=by omega
 have g2:(i:Int) < (s.aX.length:Int):=by omega
 clear h
 go_enter Tryd.func83,Tryd.ntmps83
 go_wp2_with fail
 go_quiet (fail)
 go_wp2_with fail
 go_ret
 exact⟨rfl,_,rfl⟩
end
end Go.Proofs.YtcddlnmcjmhbcaaDoor
-- short
