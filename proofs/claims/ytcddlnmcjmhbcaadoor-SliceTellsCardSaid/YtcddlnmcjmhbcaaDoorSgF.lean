/-
  Joined texts: SlS SlC1 SlC2 SlC3 SlM1 SrL.
-/
import Derived.Test.YtcddlnmcjmhbcaaDoorSgD
import Derived.Test.YtcddlnmcjmhbcaaDoorSgE
import Derived.Test.YtcddlnmcjmhbcaaDoorHtE
import Derived.Deep.DeepCutAuto
import Derived.Deep.CutBlock
import Derived.BigQuiet
namespace Go.Proofs.YtcddlnmcjmhbcaaDoor
set_option linter.unusedVariables false
set_option linter.unusedSimpArgs false
open Go Go.RowKit
def EZ (a:aH):Prop:=UX a∧(∀ p∈a.reads,tu p.1∧tu p.2)∧(∀ p∈a.writes,tu p.1∧tu p.2)
theorem Hz:tu 0:=by unfold tu;omega
theorem KP:EZ aH.zero:=⟨⟨Hz,Hz,Hz,Hz,Hz,Hz⟩,fun p hp=>(by cases hp),fun p hp=>(by cases hp)⟩
theorem KQ {a:aH} {o i:Int} {e:Ev} (h:EZ a) (he:jr e) (hi:tu i):EZ (bK a o e i):=by
 obtain⟨⟨h1,h2,h3,h4,h5,h6⟩,hr,hw⟩:=h
 obtain⟨he0,he1,he2,he3,he4,Yy,he6⟩:=he
 have hto:∀ q:Int,tu (if q=0 then i else a.dI):=fun q=>by split <;> assumption
 unfold bK
 split
 ·refine⟨⟨h1,h2,h3,h4,h5,h6⟩,fun p hp=>?_,hw⟩
  rcases List.mem_append.1 hp with hp | hp
  ·exact hr p hp
  ·rw[List.mem_singleton]at hp;subst hp;exact⟨he3,Yy⟩
 ·split
  ·refine⟨⟨h1,h2,h3,h4,h5,h6⟩,hr,fun p hp=>?_⟩
   rcases List.mem_append.1 hp with hp | hp
   ·exact hw p hp
   ·rw[List.mem_singleton]at hp;subst hp;exact⟨he3,Yy⟩
  ·split
   ·exact⟨⟨h1,h2,h3,hto o,h5,he4⟩,hr,hw⟩
   ·split
    ·exact⟨⟨h1,h2,h3,hto (o-1),h5,h6⟩,hr,hw⟩
    ·split
     ·exact⟨⟨h1,h2,h3,hto o,h5,h6⟩,hr,hw⟩
     ·split
      ·exact⟨⟨h1,h2,h3,hi,h5,h6⟩,hr,hw⟩
      ·exact⟨⟨h1,h2,h3,h4,h5,h6⟩,hr,hw⟩
theorem Bh:∀ (l:List Ev) (h:HS) (i:Int),(∀ q∈h.out,EZ q)→(∀ e∈l,jr e)→0≤i→i+(l.length:Int)≤9223372036854775807→∀ q∈(gZ h i l).out,EZ q
 | [],h,i,hn,_,_,_,q,hq=>hn q hq
 | e :: l,h,i,hn,he,h0,hi,q,hq=>by
  have hc:((e :: l).length:Int)=(l.length:Int)+1:=by simp
  have hi64:tu i:=by unfold tu;omega
  have heo:=he e (List.mem_cons_self ..)
  refine Bh l (dS h i e) (i+1) (fun q hq=>?_) (fun x hx=>he x (List.mem_cons_of_mem _ hx)) (by omega) (by omega) q hq
  unfold dS at hq
  split at hq
  ·rcases List.mem_append.1 hq with hq | hq
   ·exact hn q hq
   ·rw[List.mem_singleton]at hq;subst hq
    obtain⟨he0,he1,he2,he3,he4,Yy,he6⟩:=heo
    exact⟨⟨he1,he2,hi64,by show tu (-1);unfold tu;omega,he4,Hz⟩,fun p hp=>(by cases hp),fun p hp=>(by cases hp)⟩
  ·split at hq
   ·exact hn q hq
   ·rcases List.mem_or_eq_of_mem_set hq with hq | rfl
    ·exact hn q hq
    ·refine KQ ?_ heo hi64
     rw[List.getD_eq_getElem?_getD]
     cases hg:h.out[h.last e.th]? with
     | none=>exact KP
     | some a=>exact hn a (List.mem_of_getElem? hg)
theorem EJ {l:List Ev} (he:∀ e∈l,jr e) (hl:l.length≤1048576):∀ q∈(az l).out,EZ q:=
 Bh l nJ 0 (fun q hq=>by cases hq) he (Int.le_refl _) (by omega)
theorem uj {l:List Ev}:(az l).out.length≤l.length∧∀ q∈(az l).out,q.reads.length≤l.length∧q.writes.length≤l.length:=by
 refine⟨?_,fun q hq=>?_⟩
 ·have:=uZ l nJ 0
  have h0:nJ.out.length=0:=rfl
  show(gZ nJ 0 l).out.length≤l.length
  omega
 ·have:=um l nJ 0 0 (fun q hq=>by cases hq) q hq
  omega
theorem Az:∀ {l:List (Int×Int)} {i:Nat} (h:i < l.length),(dw l)[i*2]? =some (.int .i64 l[i].1)∧(dw l)[i*2+1]? =some (.int .i64 l[i].2)
 | p :: l,0,_=>⟨rfl,rfl⟩
 | p :: l,i+1,h=>by
  have:=Az (l:=l) (i:=i) (by simpa using h)
  have e:dw (p :: l)=[.int .i64 p.1,.int .i64 p.2]++dw l:=by unfold dw;rw[List.flatMap_cons]
  rw[e,List.getElem?_append_right (by simp;omega),List.getElem?_append_right (by simp;omega)]
  have e1:(i+1)*2- [Value.int .i64 p.1,Value.int .i64 p.2].length=i*2:=by simp;omega
  have e2:(i+1)*2+1- [Value.int .i64 p.1,Value.int .i64 p.2].length=i*2+1:=by simp;omega
  rw[e1,e2];exact this
theorem rq {W:World} {n₀:Nat} {v:Value} {l:List (Int×Int)} (h:W.ownsRow n₀ 61 2 v l.length (dw l)) (hb:∀ p∈l,tu p.1∧tu p.2) (hl:l.length≤1048576):fJ W l v:=by
 have h0:=h
 rcases h.2 with⟨rfl,hn⟩ | ⟨g,cap,cur,rfl,hb',hg,h1,h2,h3,h4⟩
 ·exact⟨none,0,by rw[hn],by omega,hb,fun hne=>absurd (List.eq_nil_of_length_eq_zero hn) hne⟩
 ·refine⟨_,cap,rfl,by omega,hb,fun _=>⟨g,0,rfl,fun k hk=>?_⟩⟩
  obtain⟨e1,e2⟩:=Az hk
  rw[Nat.zero_add]
  exact⟨(h0.cellAt (k*2) (by omega)).trans e1,(h0.cellAt (k*2+1) (by omega)).trans e2⟩
theorem zM.rd {W:World} {n₀:Nat} {v:Value} {L:List aH} (h:zM W n₀ v L) (hN:∀ q∈L,EZ q) (hl:L.length≤1048576) (hp:∀ q∈L,q.reads.length≤1048576∧q.writes.length≤1048576):jq W L v:=by
 obtain⟨H,h1,h2⟩:=h
 have h0:=h1
 rcases h1.2 with⟨rfl,hn⟩ | ⟨g,cap,cur,rfl,hb',hg,q1,q2,q3,q4⟩
 ·exact⟨none,0,by rw[hn],by omega,fun hne=>absurd (List.eq_nil_of_length_eq_zero hn) hne⟩
 ·refine⟨_,cap,rfl,by omega,fun _=>⟨g,0,rfl,fun k hk=>⟨H k false,H k true,?_⟩⟩⟩
  have hm:=List.getElem_mem hk
  obtain⟨n1,n2,n3⟩:=hN _ hm
  obtain⟨m1,m2⟩:=hp _ hm
  have eD:L.getD k aH.zero=L[k]:=by rw[List.getD_eq_getElem?_getD,List.getElem?_eq_getElem hk];rfl
  have hr:=h2 k false hk
  have hw:=h2 k true hk
  rw[eD]at hr hw
  have hc:∀ j,j < 9→W.cell? ⟨g,0+k*9+j,none⟩=(kP L[k] (H k false) (H k true))[j]?:=fun j hj=>by
   rw[Nat.zero_add,h0.cellAt (k*9+j) (by omega),fO hk hj,eD]
  refine⟨n1,?_,hc 1 (by omega),hc 2 (by omega),hc 3 (by omega),hc 4 (by omega),hc 5 (by omega),hc 6 (by omega),hc 7 (by omega),hc 8 (by omega),rq hr n2 m1,rq hw n3 m2⟩
  have:=hc 0 (by omega)
  rwa [Nat.add_zero]at this
theorem Qj (tw:List Ev) (k:Nat) (h:k < tw.length) (j:Nat) (v:Value) (hv:(qM tw[k])[j]? =some v):(tw.flatMap qM)[k*7+j]? =some v:=by
 induction tw generalizing k with
 | nil=>simp at h
 | cons e r ih=>
  have hlen:(qM e).length=7:=rfl
  rw[List.flatMap_cons]
  cases k with
  | zero=>
   have hj:j < 7:=by
    rcases Nat.lt_or_ge j 7 with h | h
    ·exact h
    ·simp only[List.getElem_cons_zero]at hv
     rw[List.getElem?_eq_none (by rw[hlen];exact h)]at hv;cases hv
   rw[List.getElem?_append_left (by rw[hlen];omega)]
   simpa using hv
  | succ k=>
   rw[List.getElem?_append_right (by rw[hlen];omega),hlen]
   have:(k+1)*7+j-7=k*7+j:=by omega
   rw[this]
   exact ih k (by simpa using h) (by simpa using hv)
theorem zn {W:World} {base:Nat} {v:Value} {l:List Ev} (h:W.ownsRow base 49 7 v l.length (l.flatMap qM)) (ho:∀ e∈l,jr e):∃ a c,v=.slice a l.length c∧cO W a l:=by
 have h0:=h
 rcases h.2 with⟨rfl,hn⟩ | ⟨g,cap,cur,rfl,hb',hg,q1,q2,q3,q4⟩
 ·exact⟨none,0,by rw[hn],ho,fun hne=>absurd (List.eq_nil_of_length_eq_zero hn) hne⟩
 ·refine⟨_,cap,rfl,ho,fun _=>⟨g,0,rfl,fun k hk j u hu=>?_⟩⟩
  have hj:j < 7:=(List.getElem?_eq_some_iff.1 hu).1
  rw[Nat.zero_add,h0.cellAt (k*7+j) (by omega)]
  exact Qj l k hk j u hu
theorem TM {l:List Ev} {K:List Nat} {k:Nat} (h:∀ e∈l,jr e):∀ e∈mO l K k,jr e:=by
 intro e he
 obtain⟨i,hi,hie⟩:=List.mem_filterMap.1 he
 split at hie
 ·exact h e (List.mem_of_getElem? hie)
 ·cases hie
theorem xP (l:List Ev) (K:List Nat):∀ k,(mO l K k).length≤k:=by
 intro k
 unfold mO
 have:=List.length_filterMap_le (fun i=>if AU K (mD l i)=true then l[i]? else none) (List.range k)
 rw[List.length_range]at this
 exact this
theorem Ff.shape {w:World} {l:List Int} {v:Value} (h:Ff w l v):∃ a cap,v=.slice a l.length cap:=by
 obtain⟨a,cap,h1,_⟩:=h
 exact⟨a,cap,h1⟩
def kX (V v:Int):Bool:=decide (v < 0)||decide (V≤v)
def rQ (V:Int):List Int→Nat→Int
 | [],_=>-1
 | x :: xs,k=>if kX V x=true then k else rQ V xs (k+1)
theorem Kw (V:Int) (l:List Int) (k:Nat):decide (0≤rQ V l k)=l.any (kX V):=by
 induction l generalizing k with
 | nil=>simp[rQ]
 | cons x xs ih=>
  simp only[rQ,List.any_cons]
  split
  ·rename_i h;simp[h]
  ·rename_i h;simp[ih,h]
theorem G5 (V:Int) (l:List Int) (k:Nat) (h:k < l.length):rQ V (l.drop k) k=if kX V l[k]=true then(k:Int)else rQ V (l.drop (k+1)) (k+1):=by
 rw[List.drop_eq_getElem_cons h];rfl
set_option maxRecDepth 100000 in
set_option maxHeartbeats 4000000 in
theorem Qs (V v:Int) (b:Nat) (w:World) (h:w.cell? ⟨b,1,none⟩=some (.int .i64 V)):
  Calls Tryd.prog 31 #[.int .i64 v,.pointer (some ⟨b,0,none⟩)] w fun e w'=>e=.returned (.bool (kX V v))∧Below w.heap.size w w':=by
 have hl:=lt_of_cell h
 unfold kX
 by_cases h1:v < 0
 ·have j1:decide (v < 0)=true:=decide_eq_true h1
  clear h1
  go_enter Tryd.func31,Tryd.ntmps31
  go_wp2_with fail
  go_ret
  exact⟨by simp[j1],af _⟩
 ·have j1:decide (v < 0)=false:=decide_eq_false h1
  clear h1
  go_enter Tryd.func31,Tryd.ntmps31
  go_wp2_with fail
  go_ret
  exact⟨by simp[j1],af _⟩
set_option maxRecDepth 100000 in
set_option maxHeartbeats 4000000 in
theorem Gt (l:List Int) (V:Int) (c:Nat) (w:World) (sv:Value) (hr:Ff w l sv) (hc:w.cell? ⟨c,1,none⟩=some (.int .i64 V)):
  Calls Tryd.prog 66 #[sv,.func (.func 31) #[] #[.pointer (some ⟨c,0,none⟩)]] w fun e' w'=>e'=.returned (.int .i64 (rQ V l 0))∧Below w.heap.size w w':=by
 obtain⟨a,cap,rfl,hlen,hok,hx,-⟩:=hr
 have HX:=hid hx;clear hx
 go_enter Tryd.func66,Tryd.ntmps66
 go_wp2_with fail
 go_loopw [8] (fun i wr=>∃ k:Nat,k≤l.length∧i=.int .i64 k∧Hid (rQ V l 0=rQ V (l.drop k) k)∧Below w.heap.size w wr) (fun i _=>l.length-(intOf i).toNat)
 case atStart=>exact⟨0,Nat.zero_le _,rfl,rfl,af _⟩
 case round=>
  obtain⟨k,hk,rfl,HF,hb⟩:=hrel
  by_cases hlt:k < l.length
  ·obtain⟨b,off,rfl,hrd⟩:=HX.out (by intro h;subst h;simp at hlt)
   have d0:=later hb (hrd k hlt)
   have HC:=hid (later hb hc)
   have HD:=hid (G5 V l k hlt)
   clear hrd
   go_wp2_with fail
   refine(Qs V _ c _ HC.out).mono ?_
   rintro e w1 ⟨rfl,hb1⟩
   obtain⟨q,hq⟩:∃ q,q=kX V l[k]:=⟨_,rfl⟩
   rw[←hq]
   have HQ:=hid hq
   clear hq
   cases q
   ·go_wp2_with fail
    go_roundw
    case rel=>exact⟨k+1,hlt,by go_num,hid (by rw[HF.out,HD.out,←HQ.out];simp),ag hb hb1⟩
    case measure=>simp[intOf];omega
   ·go_wp2_with fail
    go_ret
    exact⟨gy (by rw[HF.out,HD.out,←HQ.out];simp),ag hb hb1⟩
  ·obtain rfl:k=l.length:=by omega
   go_wp2_with fail
   go_ret
   exact⟨gy (by rw[HF.out];simp[rQ]),hb⟩
set_option maxRecDepth 100000 in
set_option maxHeartbeats 4000000 in
theorem zX (l:List Int) (V:Int) (c:Nat) (w:World) (sv:Value) (hr:Ff w l sv) (hc:w.cell? ⟨c,1,none⟩=some (.int .i64 V)):
  Calls Tryd.prog 30 #[sv,.func (.func 31) #[] #[.pointer (some ⟨c,0,none⟩)]] w fun e' w'=>e'=.returned (.bool (l.any (kX V)))∧Below w.heap.size w w':=by
 have HI:=hid (Gt l V c w sv hr hc)
 have HF:=hid (Kw V l 0)
 generalize rQ V l 0=i at HI HF
 obtain⟨q,hq⟩:∃ q,q=decide ((0:Int)≤i):=⟨_,rfl⟩
 have hqi:decide ((0:Int)≤i)=q:=hq.symm
 rw[hqi]at HF
 rw[←HF.out]
 obtain⟨a,cap,rfl⟩:=hr.shape
 clear hr hq
 go_enter Tryd.func30,Tryd.ntmps30
 go_wp2_with fail
 refine HI.out.mono ?_
 rintro e' w1 ⟨rfl,hb1⟩
 cases q
 all_goals
  go_wp2_with fail
  go_ret
  exact⟨rfl,hb1⟩
set_option maxRecDepth 100000 in
set_option maxHeartbeats 4000000 in
theorem EE (l:List Nat) (i:Int) (hi:i < 0) (w:World) (v:Value) (hr:mg w l v) (hl:l.length≤1000000000):
  Calls Tryd.prog 32 #[v,.int .i64 i] w fun e w'=>e=.returned (.tuple #[.int .i64 0,.bool false])∧w'=w:=by
 obtain⟨a,cap,rfl,hx⟩:=hr
 have HX:=hid hx;clear hx
 have HN:∀ (x:Int) (w:World),Calls Tryd.prog 68 #[.int .i64 x] w fun e w'=>e=.returned (.bool false)∧w'=w:=by
  intro x w
  go_enter Tryd.func68,Tryd.ntmps68
  go_wp2_with fail
  go_ret
  exact⟨by simp,rfl⟩
 have HN':=hid HN
 clear HN
 have HN:=HN'
 clear HN'
 have HL:=hid hl;clear hl
 have WG:=hid hi
 clear hi
 go_enter Tryd.func32,Tryd.ntmps32
 go_wp2_with fail
 go_loopw [7,8] (fun p q wr=>∃ a b:Nat,p=.int .i64 (a:Int)∧q=.int .i64 (b:Int)∧Hid (a=0∧b≤l.length)∧wr=w) (fun p q _=>(intOf q).toNat-(intOf p).toNat)
 case atStart=>exact⟨0,l.length,rfl,rfl,hid ⟨rfl,Nat.le_refl _⟩,rfl⟩
 case round=>
  obtain⟨p,q,rfl,rfl,HI,rfl⟩:=hrel
  by_cases hlt:p < q
  ·obtain⟨m,hmE⟩:∃ m,m=(p+q) / 2:=⟨_,rfl⟩
   have hm:m < l.length:=by have:=HI.out;omega
   obtain⟨b,o,rfl,hc⟩:=HX.out (by intro h;subst h;simp at hm)
   have c0:=hc _ hm
   have j1:decide ((p:Int) < (q:Int))=true:=by rw[decide_eq_true_iff];omega
   have j2:IntKind.i64.wrap ((p:Int)+(q:Int))=((p+q:Nat):Int):=by have:=HI.out;have:=HL.out;rw[IntWalk.i64_in _ (by omega)];omega
   have hbl:=lt_of_cell c0
   have k1:decide ((m:Int) < (l.length:Int))=true:=by rw[decide_eq_true_iff];omega
   have k2:(0:Int)≤(m:Int):=by omega
   have k3:IntKind.i64.wrap ((m:Int)+1)=((m+1:Nat):Int):=by have:=HL.out;rw[IntWalk.i64_in _ (by omega)];omega
   have j5:wrap64 (IntKind.u64.wrap ((p:Int)+(q:Int)) / 2)=(m:Int):=by
    have h1:=HI.out
    have h2:=HL.out
    have e1:IntKind.u64.wrap ((p:Int)+(q:Int))=(p:Int)+(q:Int):=by simp[IntKind.wrap,IntKind.signed,IntKind.bits];omega
    rw[e1]
    have e2:((p:Int)+(q:Int)) / 2=(m:Int):=by omega
    rw[e2]
    unfold wrap64
    omega
   have HM:=hid hmE
   clear hc hmE
   go_wp2_with fail
   refine(D8 _ _ _).mono ?_
   rintro e' w1 ⟨rfl,rfl⟩
   have hc':decide ((l[m]:Int) < i)=false:=by have:=WG.out;rw[decide_eq_false_iff_not];omega
   rw[hc']
   clear hc'
   go_wp2_with fail
   go_roundw
   case rel=>
    refine⟨p,m,rfl,rfl,hid ⟨HI.out.1,by have:=HI.out;omega⟩,(by first | trivial | rfl)⟩
   case measure=>
    have:=HM.out
    simp[intOf];omega
  ·obtain rfl:p=0:=by have:=HI.out;omega
   have hq0:q=0:=by omega
   subst hq0
   have j1:decide (((0:Nat):Int) < ((0:Nat):Int))=false:=by rw[decide_eq_false_iff_not];omega
   by_cases hpl:0 < l.length
   ·obtain⟨b,o,rfl,hc⟩:=HX.out (by intro h;subst h;simp at hpl)
    have c0:=hc _ hpl
    rw[Nat.add_zero]at c0
    have hbl:=lt_of_cell c0
    have k1:decide ((0:Int) < (l.length:Int))=true:=by rw[decide_eq_true_iff];omega
    have e1:((l[0]:Int)==i)=false:=by have:=WG.out;rw[beq_eq_false_iff_ne];omega
    clear hc
    go_wp2_with fail
    refine(HN.out _ _).mono ?_
    rintro e' w1 ⟨rfl,rfl⟩
    go_wp2_with fail
    go_ret2
    exact⟨rfl,rfl⟩
   ·have k1:decide ((0:Int) < (l.length:Int))=false:=by rw[decide_eq_false_iff_not];omega
    go_wp2_with fail
    go_ret2
    exact⟨rfl,rfl⟩
def jV (T V S:Int) (l:List Ev) (vars:List Int):Int:=if(aW T V S l).2≠0 then(aW T V S l).2 else if vars.any (kX V)=true then 1 else 0
def oP (T V S:Int) (l:List Ev) (vars:List Int):List Ev:=if jV T V S l vars=0 then mO l (kQ (az l).out vars) l.length else[]
def Bv (T V S:Int) (l:List Ev) (vars:List Int) (w:World) (e:Ending) (w':World):Prop:=
 ∃ T' V' S' v,e=.returned (.tuple #[.agg #[.int .i64 T',.int .i64 V',.int .i64 S',v],.int .i64 (jV T V S l vars)])∧Below w.heap.size w w'∧
  w'.ownsRow w.heap.size 49 7 v (oP T V S l vars).length ((oP T V S l vars).flatMap qM)∧(jV T V S l vars=0→T'=T∧V'=V∧S'=S)∧(jV T V S l vars≠0→T'=0∧V'=0∧S'=0)
theorem Ac {w:World} {b:Nat} {c0 c1 c2 c3:Value} {t:TypeId} (h:aA w b #[c0,c1,c2,c3] t) (v0 v1 v2 v3:Value):aA ((((w.setCell ⟨b,0,none⟩ v0).setCell ⟨b,1,none⟩ v1).setCell ⟨b,2,none⟩ v2).setCell ⟨b,3,none⟩ v3) b #[v0,v1,v2,v3] t:=by
 have:=(((h.set 0 v0).set 1 v1).set 2 v2).set 3 v3
 simpa using this
theorem sK {B:Nat} {a w:World} {b:Nat} (h:Below B a w) (hb:B≤b) (v0 v1 v2 v3:Value):Below B a ((((w.setCell ⟨b,0,none⟩ v0).setCell ⟨b,1,none⟩ v1).setCell ⟨b,2,none⟩ v2).setCell ⟨b,3,none⟩ v3):=
 (((h.setCell (p:=⟨b,0,none⟩) hb v0).setCell (p:=⟨b,1,none⟩) hb v1).setCell (p:=⟨b,2,none⟩) hb v2).setCell (p:=⟨b,3,none⟩) hb v3
set_option maxRecDepth 100000 in
set_option maxHeartbeats 4000000 in
theorem Wh (T V S:Int) (a:Option Addr) (l:List Ev) (cap:Nat) (vars:List Int) (vv:Value) (w:World) (hc:(aW T V S l).2≠0) (hV:Ff w vars vv) (hE:cO w a l) (hK:bn w) (hT:gJ w):
  Calls Tryd.prog 16 #[oZ T V S a l.length cap,vv] w (Bv T V S l vars w):=by
 have HC:=hid (fun W (hW:Below w.heap.size w W)=>MC T V S a l cap W (hE.below hW) (hK.below hW) (hT.below hW))
 have HP:∀ W',Below w.heap.size w W'→Bv T V S l vars w (.returned (.tuple #[.agg #[.int .i64 0,.int .i64 0,.int .i64 0,.slice none 0 0],.int .i64 (aW T V S l).2])) W':=fun W' hb=>by
  have e:jV T V S l vars=(aW T V S l).2:=if_pos hc
  unfold Bv oP
  rw[e,if_neg hc]
  exact⟨0,0,0,_,rfl,hb,World.ownsRow_nil _ _ _ _,fun h=>absurd h hc,fun _=>⟨rfl,rfl,rfl⟩⟩
 have HP:=hid HP
 obtain⟨Q,hQ⟩:∃ Q,Q=Bv T V S l vars w:=⟨_,rfl⟩
 rw[←hQ]at HP⊢
 unfold QD at HC
 generalize (aW T V S l).2=q at HC HP hc
 have g1:(q==0)=false:=beq_eq_false_iff_ne.2 hc
 have g2:(q !=0)=true:=bne_iff_ne.2 hc
 obtain⟨av,cv,rfl,-⟩:=hV
 clear hK hT hE hc hQ
 dsimp only[oZ]at HC⊢
 have HB:Hid (Below w.heap.size w ((w.alloc (.cells #[.int .i64 T,.int .i64 V,.int .i64 S,.slice a l.length cap] 24)).alloc (.cells #[.int .i64 0,.int .i64 0,.int .i64 0,.slice none 0 0] 24))):=hid (ah (ah (af _) _) _)
 have HZ:=hid (aA.new' (w.alloc (.cells #[.int .i64 T,.int .i64 V,.int .i64 S,.slice a l.length cap] 24)) #[.int .i64 0,.int .i64 0,.int .i64 0,.slice none 0 0] 24 (World.size_alloc _ _).symm)
 go_enter Tryd.func16,Tryd.ntmps16
 go_wp2_with fail
 refine(HC.out _ HB.out).mono ?_
 rintro e' w1 ⟨vo,rfl,hb1,hat⟩
 have hz:=HZ.out.below hb1
 have HZ1:=hid hz
 have f0:=hz.free 0
 have f1:=hz.free 1
 have f2:=hz.free 2
 have f3:=hz.free 3
 have c0:=hz.cell 0 (v:=.int .i64 0) rfl
 have c1:=hz.cell 1 (v:=.int .i64 0) rfl
 have c2:=hz.cell 2 (v:=.int .i64 0) rfl
 have c3:=hz.cell 3 (v:=.slice none 0 0) rfl
 have HB1:=hid (ag HB.out hb1)
 clear hb1 hat hz
 go_wp2_with fail
 have hF:=Ac HZ1.out (.int .i64 0) (.int .i64 0) (.int .i64 0) (.slice none 0 0)
 have Eh:=sK HB1.out (Nat.le_succ _) (.int .i64 0) (.int .i64 0) (.int .i64 0) (.slice none 0 0)
 obtain⟨Wf,hWf⟩:∃ Wf,Wf=(((w1.setCell ⟨w.heap.size+1,0,none⟩ (.int .i64 0)).setCell ⟨w.heap.size+1,1,none⟩ (.int .i64 0)).setCell ⟨w.heap.size+1,2,none⟩ (.int .i64 0)).setCell ⟨w.heap.size+1,3,none⟩ (.slice none 0 0):=⟨_,rfl⟩
 rw[←hWf]at hF Eh⊢
 have q0:=hF.cell 0 (v:=.int .i64 0) rfl
 have q1:=hF.cell 1 (v:=.int .i64 0) rfl
 have q2:=hF.cell 2 (v:=.int .i64 0) rfl
 have q3:=hF.cell 3 (v:=.slice none 0 0) rfl
 exact bodyPost_ret (v:=.tuple #[.agg #[.int .i64 0,.int .i64 0,.int .i64 0,.slice none 0 0],.int .i64 q]) (by simp[results,Tryd.results16,go_sem,q0,q1,q2,q3]) rfl (HP.out _ Eh)
theorem IU:(Tryd.prog.info? 49).map (fun i=>(i.zero,i.size,i.bytes))=some (some (.agg #[.int .u8 0,.int .i64 0,.int .i64 0,.int .i64 0,.int .i64 0,.int .i64 0,.int .u8 0]),7,56):=by kernel_rfl
theorem Qu {w:World} {g:Nat} {cs:List Value} {t:TypeId} (h:aA w g cs.toArray t):∀ (j:Nat) (u:Value),cs[j]? =some u→w.cell? ((⟨g,0,none⟩:Addr).add j)=some u:=by
 intro j u hu
 have:=h.cell j (by simpa using hu)
 unfold Addr.add
 split
 ·rename_i h;subst h;exact this
 ·simpa using this
theorem kF {W:World} {base:Nat} {e:TypeId} {size:Nat} {v:Value} {n:Nat} {xs:List Value} {b o:Nat} {x:Value} (h:W.ownsRow base e size v n xs) (hn:∀ g,v.ownBlock=some g→g≠b):(W.setCell ⟨b,o,none⟩ x).ownsRow base e size v n xs:=by
 refine h.kept (row:=some b) ⟨rfl,rfl,rfl,by simp[World.setCell],fun j hj hne=>Below.heap_setCell _ _ _ _ (fun e=>hne (by rw[e]))⟩ ?_
 cases hv:v.ownBlock with
 | none=>exact Or.inl rfl
 | some g=>exact Or.inr fun e=>hn g hv (Option.some.inj e)
theorem oH {W:World} {n₀ e size n:Nat} {v:Value} {xs:List Value} (h:W.ownsRow n₀ e size v n xs):∃ a c,v=.slice a n c:=by
 rcases h.2 with⟨rfl,h0⟩ | ⟨g,cap,cur,rfl,_⟩
 ·exact⟨none,0,by rw[h0]⟩
 ·exact⟨_,_,rfl⟩
structure Bz (W4 wr:World) (T V S:Int) (l:List Ev) (K:List Nat) (k:Nat) (cur:Value):Prop where
 low:Below W4.heap.size W4 wr
 u:aA wr W4.heap.size #[.int .i64 T,.int .i64 V,.int .i64 S,cur] 24
 own:wr.ownsRow (W4.heap.size+1) 49 7 cur (mO l K k).length ((mO l K k).flatMap qM)
variable {W4 wr W1 W2:World} {T V S:Int} {l:List Ev} {K:List Nat} {k:Nat} {cur:Value}
theorem Bz.begin:Bz W4 (W4.alloc (.cells #[.int .i64 T,.int .i64 V,.int .i64 S,.slice none 0 0] 24)) T V S l K 0 (.slice none 0 0):=
 ⟨ah (af _) _,aA.new _ _ _,World.ownsRow_nil _ _ _ _⟩
theorem Bz.skip (H:Bz W4 wr T V S l K k cur) (hk:k < l.length) (hq:AU K (mD l k)=false) (hb:Below wr.heap.size wr W1):Bz W4 W1 T V S l K (k+1) cur:=by
 have e:mO l K (k+1)=mO l K k:=by rw[ED l K k hk,hq];simp
 exact⟨ag H.low hb,H.u.below hb,by rw[e];exact fC H.own hb⟩
theorem Bz.add {e:Ev} {v:Value} (H:Bz W4 wr T V S l K k cur) (hk:k < l.length) (he:l[k]=e) (hq:AU K (mD l k)=true) (hb:Below wr.heap.size wr W1) (ho:W2.ownsRow (W4.heap.size+1) 49 7 v ((mO l K k).length+1) ((mO l K k).flatMap qM++qM e)) (hg:W1.grownBy W2 cur.ownBlock):
  Bz W4 (W2.setCell ⟨W4.heap.size,3,none⟩ v) T V S l K (k+1) v:=by
 have e:mO l K (k+1)=mO l K k++[e]:=by rw[ED l K k hk,hq,if_pos rfl,he]
 have hown1:=fC H.own hb
 have hu1:=H.u.below hb
 have hlow1:=ag H.low hb
 refine⟨?_,?_,?_⟩
 ·exact(hlow1.grown hg hlow1.size (fun q hq=>Nat.le_of_succ_le (hown1.lt q hq).1)).setCell (p:=⟨W4.heap.size,3,none⟩) (Nat.le_refl _) _
 ·have:=(hu1.grown hg (bG hown1 hu1 (by decide))).set 3 v
  simpa using this
 ·rw[e]
  refine kF ?_ (fun g hg'=>by have:=(ho.lt g hg').1;omega)
  rw[List.length_append,List.flatMap_append]
  simpa using ho
theorem TN (K:List Nat) (hs:gQ K) (hl:K.length≤1000000000) (i:Int) (w:World) (v:Value) (hr:mg w K v):
  Calls Tryd.prog 32 #[v,.int .i64 i] w fun e w'=>∃ p:Int,e=.returned (.tuple #[.int .i64 p,.bool (AU K i)])∧w'=w:=by
 by_cases hi:0≤i
 ·obtain⟨m,rfl⟩:∃ m:Nat,i=(m:Int):=⟨i.toNat,by omega⟩
  refine(xh K hs m w v hr hl).mono ?_
  rintro e w' ⟨rfl,rfl⟩
  exact⟨(fE K m:Int),by unfold AU;simp,rfl⟩
 ·refine(EE K i (by omega) w v hr hl).mono ?_
  rintro e w' ⟨rfl,rfl⟩
  exact⟨0,by unfold AU;rw[decide_eq_false hi];rfl,rfl⟩
theorem TP {l:List Ev} {vars:List Int} (hl:l.length≤600) (hv:vars.length≤50):(roots (az l).out vars).length+(az l).out.length*oq (az l).out≤1000000000000:=by
 obtain⟨h1,h2⟩:=uj (l:=l)
 have e1:=Au (az l).out vars
 have e2:oq (az l).out≤600+(az l).out.length:=Jb fun a ha=>by have:=h2 a ha;omega
 have:(az l).out.length*oq (az l).out≤600*1200:=Nat.mul_le_mul (by omega) (by omega)
 omega
theorem AP {L:List aH} {vars:List Int}:(kQ L vars).length≤L.length:=tX (lM L vars).1 (lM L vars).lt
set_option maxRecDepth 100000 in
set_option maxHeartbeats 8000000 in
theorem TK (T V S:Int) (a:Option Addr) (l:List Ev) (cap:Nat) (vars:List Int) (vv:Value) (w:World) (hc:(aW T V S l).2=0) (hl:l.length≤600) (hvl:vars.length≤50) (hV:Ff w vars vv) (hE:cO w a l) (hK:bn w) (hT:gJ w):
  Calls Tryd.prog 16 #[oZ T V S a l.length cap,vv] w (Bv T V S l vars w):=by
 have HC:=hid (fun W (hW:Below w.heap.size w W)=>MC T V S a l cap W (hE.below hW) (hK.below hW) (hT.below hW))
 have HS:=hid (fun W (hW:Below w.heap.size w W)=>Jr T V S a l cap W (hE.below hW) (hK.below hW) (hT.below hW))
 unfold QD at HC
 unfold sG at HS
 simp only[hc,if_true]at HC HS
 have hbig:=TP hl hvl
 obtain⟨hs1,hs2⟩:=uj (l:=l)
 have hN:=EJ hE.1 (by omega)
 have xG:=hid (fun(W:World) (n₀:Nat) (v:Value) (h:zM W n₀ v (az l).out)=>h.rd hN (by omega) (fun q hq=>by have:=hs2 q hq;omega))
 have OB:=hid (fun w' vl vv h1 h2=>Ea (az l).out vars w' vl vv h1 h2 hbig (by omega))
 have hkl:(kQ (az l).out vars).length≤600:=by have:=AP (L:=(az l).out) (vars:=vars);omega
 have hks:=(lM (az l).out vars).1
 have hof:=BU l
 have HP:∀ e w',(∃ v,e=.returned (.tuple #[.agg #[.int .i64 T,.int .i64 V,.int .i64 S,v],.int .i64 0])∧vars.any (kX V)=false∧Below w.heap.size w w'∧w'.ownsRow w.heap.size 49 7 v (mO l (kQ (az l).out vars) l.length).length ((mO l (kQ (az l).out vars) l.length).flatMap qM))→Bv T V S l vars w e w':=by
  rintro e w' ⟨v,rfl,hq,hb,ho⟩
  have e1:jV T V S l vars=0:=by unfold jV;rw[hc,if_neg (by decide),hq];rfl
  unfold Bv oP
  rw[e1,if_pos rfl]
  exact⟨T,V,S,v,rfl,hb,ho,fun _=>⟨rfl,rfl,rfl⟩,fun h=>absurd rfl h⟩
 have Jf:∀ w',vars.any (kX V)=true→Below w.heap.size w w'→Bv T V S l vars w (.returned (.tuple #[.agg #[.int .i64 0,.int .i64 0,.int .i64 0,.slice none 0 0],.int .i64 1])) w':=by
  intro w' hq hb
  have e1:jV T V S l vars=1:=by unfold jV;rw[hc,if_neg (by decide),hq];rfl
  unfold Bv oP
  rw[e1,if_neg (by decide)]
  exact⟨0,0,0,_,rfl,hb,World.ownsRow_nil _ _ _ _,(fun h=>by cases h),fun _=>⟨rfl,rfl,rfl⟩⟩
 have HP:=hid HP
 have Jf:=hid Jf
 generalize kQ (az l).out vars=K at*
 generalize (az l).out=L at*
 obtain⟨Q,hQ⟩:∃ Q,Q=Bv T V S l vars w:=⟨_,rfl⟩
 rw[←hQ]at HP Jf⊢
 have HV:=hid hV
 have HE:=hid hE
 have UI:=hid (G7 hE)
 have UE:=hid hks
 have uA:=hid hkl
 have HL:=hid hl
 have HOF:=hid hof
 obtain⟨av,cv,rfl,-⟩:=hV
 obtain⟨ti,hti,hz0,hz1,hz2⟩:=info_parts IU
 clear hK hT hE hc hQ hbig hs1 hs2 hN hks hkl hof hl hvl
 dsimp only[oZ]at HC HS⊢
 have HB:Hid (Below w.heap.size w ((w.alloc (.cells #[.int .i64 T,.int .i64 V,.int .i64 S,.slice a l.length cap] 24)).alloc (.cells #[.int .i64 0,.int .i64 0,.int .i64 0,.slice none 0 0] 24))):=hid (ah (ah (af _) _) _)
 have HX:=hid ((aA.new w #[.int .i64 T,.int .i64 V,.int .i64 S,.slice a l.length cap] 24).alloc (.cells #[.int .i64 0,.int .i64 0,.int .i64 0,.slice none 0 0] 24))
 have HZ:=hid (aA.new' (w.alloc (.cells #[.int .i64 T,.int .i64 V,.int .i64 S,.slice a l.length cap] 24)) #[.int .i64 0,.int .i64 0,.int .i64 0,.slice none 0 0] 24 (World.size_alloc _ _).symm)
 go_enter Tryd.func16,Tryd.ntmps16
 go_wp2_with fail
 refine(HC.out _ HB.out).mono ?_
 rintro e' w1 ⟨vo,rfl,hb1,hat⟩
 have CY:=hid (HX.out.below hb1)
 have HZ1:=hid (HZ.out.below hb1)
 have HAT:=hid (xG.out _ _ _ hat)
 have HB1:=hid (ag HB.out hb1)
 have d0:=CY.out.cell 0 (v:=.int .i64 T) rfl
 have d1:=CY.out.cell 1 (v:=.int .i64 V) rfl
 have d2:=CY.out.cell 2 (v:=.int .i64 S) rfl
 have d3:=CY.out.cell 3 (v:=.slice a l.length cap) rfl
 clear hb1 hat HX HZ HB
 go_wp2_with fail
 refine(HS.out _ HB1.out).mono ?_
 rintro e' w2 ⟨vf,rfl,hb2,hof⟩
 have KY:=hid (CY.out.below hb2)
 have HZ2:=hid (HZ1.out.below hb2)
 have QY:=hid (HAT.out.below hb2)
 have HB2:=hid (ag HB1.out hb2)
 have ZH:=hid hof
 clear hb2 hof CY HZ1 HAT HB1 d0 d1 d2 d3
 go_wp2_with fail
 refine(zX vars V w.heap.size w2 _ (HV.out.below HB2.out) (KY.out.cell 1 rfl)).mono ?_
 rintro e' w3 ⟨rfl,hb3⟩
 have Dq:=hid (KY.out.below hb3)
 have HZ3:=hid (HZ2.out.below hb3)
 have Xj:=hid (QY.out.below hb3)
 have HB3:=hid (ag HB2.out hb3)
 have Uz:=hid (fC ZH.out hb3)
 have HZZ:=hid (And.intro HB2.out.size hb3.size)
 clear hb3 KY HZ2 QY
 obtain⟨q,hq⟩:∃ q,vars.any (kX V)=q:=⟨_,rfl⟩
 rw[hq]at HP Jf⊢
 cases q
 case true=>
  have hz:=HZ3.out
  have f0:=hz.free 0
  have f1:=hz.free 1
  have f2:=hz.free 2
  have f3:=hz.free 3
  have c0:=hz.cell 0 (v:=.int .i64 0) rfl
  have c1:=hz.cell 1 (v:=.int .i64 0) rfl
  have c2:=hz.cell 2 (v:=.int .i64 0) rfl
  have c3:=hz.cell 3 (v:=.slice none 0 0) rfl
  clear hz hq
  go_wp2_with fail
  have hF:=Ac HZ3.out (.int .i64 0) (.int .i64 0) (.int .i64 0) (.slice none 0 0)
  have Eh:=sK HB3.out (Nat.le_succ _) (.int .i64 0) (.int .i64 0) (.int .i64 0) (.slice none 0 0)
  obtain⟨Wf,hWf⟩:∃ Wf,Wf=(((w3.setCell ⟨w.heap.size+1,0,none⟩ (.int .i64 0)).setCell ⟨w.heap.size+1,1,none⟩ (.int .i64 0)).setCell ⟨w.heap.size+1,2,none⟩ (.int .i64 0)).setCell ⟨w.heap.size+1,3,none⟩ (.slice none 0 0):=⟨_,rfl⟩
  rw[←hWf]at hF Eh⊢
  have q0:=hF.cell 0 (v:=.int .i64 0) rfl
  have q1:=hF.cell 1 (v:=.int .i64 0) rfl
  have q2:=hF.cell 2 (v:=.int .i64 0) rfl
  have q3:=hF.cell 3 (v:=.slice none 0 0) rfl
  exact bodyPost_ret (v:=.tuple #[.agg #[.int .i64 0,.int .i64 0,.int .i64 0,.slice none 0 0],.int .i64 1]) (by simp[results,Tryd.results16,go_sem,q0,q1,q2,q3]) rfl (Jf.out _ (by first | rfl | trivial) Eh)
 case false=>
  clear hq Jf
  go_wp2_with fail
  refine(OB.out _ _ _ Xj.out (HV.out.below HB3.out)).mono ?_
  rintro e' W4 ⟨vk,rfl,hok,hb4⟩
  obtain⟨ka,kc,rfl⟩:=oH hok
  obtain⟨oa,oc,rfl⟩:=oH Uz.out
  have Je:=hid (Dq.out.below hb4)
  have EO:=hid (HZ3.out.below hb4)
  have HB4:=hid (ag HB3.out hb4)
  have WB:=hid (fC Uz.out hb4)
  have U6:=hid (iQ hok)
  have Ui:Hid (w.heap.size+1 < W4.heap.size):=hid (EO.out.lt)
  have d0:=Je.out.cell 0 (v:=.int .i64 T) rfl
  have d1:=Je.out.cell 1 (v:=.int .i64 V) rfl
  have d2:=Je.out.cell 2 (v:=.int .i64 S) rfl
  have d3:=Je.out.cell 3 (v:=.slice a l.length cap) rfl
  have d3a:=(Je.out.alloc (.cells #[.int .i64 T,.int .i64 V,.int .i64 S,.slice none 0 0] 24)).cell 3 (v:=.slice a l.length cap) rfl
  clear hb4 hok Dq HZ3 HB3 Uz Xj
  go_wp2_with fail
  clear d0 d1 d2 d3 d3a
  have ZJ:Hid (∀ k,k < l.length→∃ g,oa=some ⟨g,0,none⟩∧g < W4.heap.size∧W4.cell? ⟨g,k,none⟩=some (.int .i64 (mD l k))):=hid (fun k hk=>by
   obtain⟨g,c,e1,-,hg⟩:=wC WB.out (by omega)
   cases e1
   refine⟨g,rfl,hg,?_⟩
   rw[WB.out.cellAt k (by omega),HOF.out,List.map_map,List.getElem?_map,List.getElem?_range hk]
   rfl)
  go_loopw [45] (fun i wr=>∃ (k:Nat) (cur:Value),k≤l.length∧i=.int .i64 (k:Int)∧Hid (Bz W4 wr T V S l K k cur)) (fun i _=>l.length-(intOf i).toNat)
  case atStart=>exact⟨0,_,Nat.zero_le _,rfl,hid Bz.begin⟩
  case round=>
   obtain⟨k,cur,hk,rfl,HI⟩:=hrel
   by_cases hlt:k < l.length
   ·obtain⟨b,o,rfl,hcell⟩:=HE.out.2 (by intro h;rw[h]at hlt;simp at hlt)
    have hbn:=UI.out b o rfl (by intro h;rw[h]at hlt;simp at hlt)
    obtain⟨g,rfl,hg,co⟩:=ZJ.out k hlt
    have co:=(HI.out.low.cell (p:=⟨g,k,none⟩) hg).trans co
    have hBw:Below w.heap.size w wr:=HB4.out.trans (HI.out.low.mono HB4.out.size)
    have vM:=hid (TN K UE.out (by have:=uA.out;omega) (mD l k))
    have Zl:=hid (fun W1 h=>HI.out.skip (W1:=W1) hlt h)
    have Wx:=hid (fun e v W1 W2 (h1:l[k]=e) h2=>HI.out.add (e:=e) (v:=v) (W1:=W1) (W2:=W2) hlt h1 h2)
    have bf:=hid hlt
    rcases iG:l[k]with⟨kind,th,tx,at_,v,x,why⟩
    have Wx:=hid (Wx.out ⟨kind,th,tx,at_,v,x,why⟩)
    have QW:=hid iG
    have e0:=(hBw.cell (p:=⟨b,o+k*7+0,none⟩) hbn).trans (hcell k hlt 0 (.int .u8 kind) (congrArg (fun e=>(qM e)[0]?) iG))
    have e1:=(hBw.cell (p:=⟨b,o+k*7+1,none⟩) hbn).trans (hcell k hlt 1 (.int .i64 th) (congrArg (fun e=>(qM e)[1]?) iG))
    have e2:=(hBw.cell (p:=⟨b,o+k*7+2,none⟩) hbn).trans (hcell k hlt 2 (.int .i64 tx) (congrArg (fun e=>(qM e)[2]?) iG))
    have e3:=(hBw.cell (p:=⟨b,o+k*7+3,none⟩) hbn).trans (hcell k hlt 3 (.int .i64 at_) (congrArg (fun e=>(qM e)[3]?) iG))
    have e4:=(hBw.cell (p:=⟨b,o+k*7+4,none⟩) hbn).trans (hcell k hlt 4 (.int .i64 v) (congrArg (fun e=>(qM e)[4]?) iG))
    have e5:=(hBw.cell (p:=⟨b,o+k*7+5,none⟩) hbn).trans (hcell k hlt 5 (.int .i64 x) (congrArg (fun e=>(qM e)[5]?) iG))
    have e6:=(hBw.cell (p:=⟨b,o+k*7+6,none⟩) hbn).trans (hcell k hlt 6 (.int .u8 why) (congrArg (fun e=>(qM e)[6]?) iG))
    rw[Nat.add_zero]at e0
    have hA:=ah (af wr) (.cells #[.int .u8 kind,.int .i64 th,.int .i64 tx,.int .i64 at_,.int .i64 v,.int .i64 x,.int .u8 why] 49)
    have HA:=hid hA
    have Zg:=hid (U6.out.below (ah HI.out.low (.cells #[.int .u8 kind,.int .i64 th,.int .i64 tx,.int .i64 at_,.int .i64 v,.int .i64 x,.int .u8 why] 49)))
    have j1:decide ((k:Int) < (l.length:Int))=true:=by rw[decide_eq_true_iff];omega
    have j2:(0:Int)≤(k:Int):=by omega
    have j3:IntKind.i64.wrap ((k:Int)+1)=((k+1:Nat):Int):=by have:=HL.out;rw[IntWalk.i64_in _ (by omega)];omega
    have hbl:=lt_of_cell e0
    have hgl:=lt_of_cell co
    obtain⟨ca,cc,rfl⟩:=oH HI.out.own
    have u3:=(HI.out.u.below hA).cell 3 (v:=.slice ca (mO l K k).length cc) rfl
    have hxl:=HI.out.u.lt
    have hbw:=aA.new wr #[.int .u8 kind,.int .i64 th,.int .i64 tx,.int .i64 at_,.int .i64 v,.int .i64 x,.int .u8 why] 49
    have z0:=hbw.cell 0 (v:=.int .u8 kind) rfl
    have z1:=hbw.cell 1 (v:=.int .i64 th) rfl
    have z2:=hbw.cell 2 (v:=.int .i64 tx) rfl
    have z3:=hbw.cell 3 (v:=.int .i64 at_) rfl
    have z4:=hbw.cell 4 (v:=.int .i64 v) rfl
    have z5:=hbw.cell 5 (v:=.int .i64 x) rfl
    have z6:=hbw.cell 6 (v:=.int .u8 why) rfl
    have hbw2:=aA.new' (wr.alloc (.cells #[.int .u8 kind,.int .i64 th,.int .i64 tx,.int .i64 at_,.int .i64 v,.int .i64 x,.int .u8 why] 49)) #[.int .u8 kind,.int .i64 th,.int .i64 tx,.int .i64 at_,.int .i64 v,.int .i64 x,.int .u8 why] 49 (World.size_alloc _ _).symm
    have HCW:=hid (Qu (cs:=[.int .u8 kind,.int .i64 th,.int .i64 tx,.int .i64 at_,.int .i64 v,.int .i64 x,.int .u8 why]) hbw2)
    have HA2:=hid (ah hA (.cells #[.int .u8 kind,.int .i64 th,.int .i64 tx,.int .i64 at_,.int .i64 v,.int .i64 x,.int .u8 why] 49))
    have RF:=hid (fC HI.out.own HA2.out)
    have U9:Hid ((mO l K k).length+1≤maxLen):=hid (by have:=xP l K k;have:=HL.out;unfold maxLen;omega)
    have WJ:Hid (((mO l K k).length+1)*56≤140737488355328):=hid (by have:=xP l K k;have:=HL.out;omega)
    have Zc:Hid (W4.heap.size+1≤((wr.alloc (.cells #[.int .u8 kind,.int .i64 th,.int .i64 tx,.int .i64 at_,.int .i64 v,.int .i64 x,.int .u8 why] 49)).alloc (.cells #[.int .u8 kind,.int .i64 th,.int .i64 tx,.int .i64 at_,.int .i64 v,.int .i64 x,.int .u8 why] 49)).heap.size):=hid (by have:=HI.out.u.lt;simp;omega)
    have HU2:=hid (HI.out.u.below HA2.out)
    clear hA hbw hbw2 hcell iG hbn hBw
    go_wp2_with fail
    refine(vM.out _ _ Zg.out).mono ?_
    rintro e' w5 ⟨p,rfl,rfl⟩
    obtain⟨q,hq⟩:∃ q,AU K (mD l k)=q:=⟨_,rfl⟩
    rw[hq]at Zl Wx⊢
    clear hq vM
    cases q
    case false=>
     clear Wx
     go_wp2_with fail
     go_roundw
     case rel=>exact⟨k+1,_,bf.out,by go_num,hid (Zl.out _ (by first | rfl | trivial) HA.out)⟩
     case measure=>have:=bf.out;simp[intOf];omega
    case true=>
     clear Zl
     go_wp2_with (at_builtin;go_must (refine wpList_append_own_at _ rfl (.tmp 61) (.tmp 63) 22 rfl (W4.heap.size+1) 49 ti _ 7 56 Tryd.underlying22 hti hz0 hz1 hz2 rfl (by decide) (.slice ca (mO l K k).length cc) (mO l K k).length ((mO l K k).flatMap qM) rfl RF.out ⟨wr.heap.size+1,0,none⟩ 1 1 [.int .u8 kind,.int .i64 th,.int .i64 tx,.int .i64 at_,.int .i64 v,.int .i64 x,.int .u8 why] rfl rfl HCW.out (by simp[Value.oneCell']) U9.out WJ.out Zc.out ?_);intro v' w6 hown6 VQ _hn hd6;obtain⟨va,vc,rfl⟩:=oH hown6;have UY:=HU2.out.grown VQ (bG RF.out HU2.out (by decide));have y3:=UY.cell 3 (v:=.slice ca (mO l K k).length cc) rfl;have g3:=UY.free 3)
     have UH:=hid (Wx.out _ _ _ QW.out (by first | rfl | trivial) HA2.out hown6 VQ)
     go_roundw
     case rel=>exact⟨k+1,_,bf.out,by go_num,UH⟩
     case measure=>have:=bf.out;simp[intOf];omega
   ·obtain rfl:k=l.length:=by omega
    have j1:decide ((l.length:Int) < (l.length:Int))=false:=by rw[decide_eq_false_iff_not];omega
    obtain⟨ca,cc,rfl⟩:=oH HI.out.own
    have u0:=HI.out.u.cell 0 (v:=.int .i64 T) rfl
    have u1:=HI.out.u.cell 1 (v:=.int .i64 V) rfl
    have u2:=HI.out.u.cell 2 (v:=.int .i64 S) rfl
    have u3:=HI.out.u.cell 3 (v:=.slice ca (mO l K l.length).length cc) rfl
    have hz:=EO.out.below HI.out.low
    have Oq:=hid hz
    have f0:=hz.free 0
    have f1:=hz.free 1
    have f2:=hz.free 2
    have f3:=hz.free 3
    have c0:=hz.cell 0 (v:=.int .i64 0) rfl
    have c1:=hz.cell 1 (v:=.int .i64 0) rfl
    have c2:=hz.cell 2 (v:=.int .i64 0) rfl
    have c3:=hz.cell 3 (v:=.slice none 0 0) rfl
    have hBw:Below w.heap.size w wr:=HB4.out.trans (HI.out.low.mono HB4.out.size)
    have jM:=hid hBw
    clear hz hBw
    go_wp2_with fail
    have hF:=Ac Oq.out (.int .i64 T) (.int .i64 V) (.int .i64 S) (.slice ca (mO l K l.length).length cc)
    have Eh:=sK jM.out (Nat.le_succ _) (.int .i64 T) (.int .i64 V) (.int .i64 S) (.slice ca (mO l K l.length).length cc)
    have hne:∀ g,(Value.slice ca (mO l K l.length).length cc).ownBlock=some g→g≠w.heap.size+1:=fun g hg=>by have:=(HI.out.own.lt g hg).1;have:=Ui.out;omega
    have hownF:=kF (kF (kF (kF HI.out.own hne (o:=0) (x:=.int .i64 T)) hne (o:=1) (x:=.int .i64 V)) hne (o:=2) (x:=.int .i64 S)) hne (o:=3) (x:=.slice ca (mO l K l.length).length cc)
    obtain⟨Wf,hWf⟩:∃ Wf,Wf=(((wr.setCell ⟨w.heap.size+1,0,none⟩ (.int .i64 T)).setCell ⟨w.heap.size+1,1,none⟩ (.int .i64 V)).setCell ⟨w.heap.size+1,2,none⟩ (.int .i64 S)).setCell ⟨w.heap.size+1,3,none⟩ (.slice ca (mO l K l.length).length cc):=⟨_,rfl⟩
    rw[←hWf]at hF Eh hownF⊢
    have q0:=hF.cell 0 (v:=.int .i64 T) rfl
    have q1:=hF.cell 1 (v:=.int .i64 V) rfl
    have q2:=hF.cell 2 (v:=.int .i64 S) rfl
    have q3:=hF.cell 3 (v:=.slice ca (mO l K l.length).length cc) rfl
    exact bodyPost_ret (v:=.tuple #[.agg #[.int .i64 T,.int .i64 V,.int .i64 S,.slice ca (mO l K l.length).length cc],.int .i64 0]) (by simp[results,Tryd.results16,go_sem,q0,q1,q2,q3]) rfl (HP.out _ _ ⟨_,rfl,(by first | rfl | trivial),Eh,uM hownF (by have:=Ui.out;omega)⟩)
set_option maxRecDepth 100000 in
set_option maxHeartbeats 4000000 in
theorem DZ (l m:List Nat) (w:World) (v u:Value) (hr:mg w l v) (hu:mg w m u) (hl:l.length≤1000000000) (hm:m.length≤1000000000):
  Calls Tryd.prog 13 #[v,u] w fun e' w'=>e'=.returned (.bool (decide (l=m)))∧Below w.heap.size w w':=by
 obtain⟨a,cap,rfl,hx⟩:=hr
 obtain⟨a',cap',rfl,hy⟩:=hu
 have HX:=hid hx;clear hx
 have HY:=hid hy;clear hy
 have HL:=hid hl;clear hl
 obtain⟨d,hd⟩:∃ d,d=decide (l=m):=⟨_,rfl⟩
 rw[←hd]
 have HD:=hid hd
 clear hd
 by_cases hlen:l.length=m.length
 ·have f1:((l.length:Int) !=(m.length:Int))=false:=by simp[hlen]
  have f2:((l.length:Int)==(m.length:Int))=true:=by simp[hlen]
  rw[←hlen]
  have HLEN:=hid hlen
  clear hlen hm f1 f2
  go_enter Tryd.func13,Tryd.ntmps13
  go_wp2_with fail
  go_loopw [5] (fun i wr=>∃ k:Nat,k≤l.length∧i=.int .i64 k∧Hid (l.take k=m.take k)∧Hid (Below w.heap.size w wr)) (fun i _=>l.length-(intOf i).toNat)
  case atStart=>exact⟨0,Nat.zero_le _,rfl,hid (by simp),hid (af _)⟩
  case round=>
   obtain⟨k,hk,rfl,HI,jM⟩:=hrel
   by_cases hlt:k < l.length
   ·have hlt':k < m.length:=by have:=HLEN.out;omega
    obtain⟨b,off,rfl,hrd⟩:=HX.out (by intro h;subst h;simp at hlt)
    obtain⟨b',off',rfl,VF⟩:=HY.out (by intro h;subst h;simp at hlt')
    have c0:=later jM.out (hrd k hlt)
    have c1:=later jM.out (VF k hlt')
    have hbl:=lt_of_cell c0
    have YC:=lt_of_cell c1
    have j1:decide ((k:Int) < (l.length:Int))=true:=by rw[decide_eq_true_iff];omega
    have j2:(0:Int)≤(k:Int):=by omega
    have j3:IntKind.i64.wrap ((k:Int)+1)=((k+1:Nat):Int):=by have:=HL.out;rw[IntWalk.i64_in _ (by omega)];omega
    have HT:Hid (l.take (k+1)=l.take k++[l[k]]):=hid (List.take_succ_eq_append_getElem hlt)
    have HT':Hid (m.take (k+1)=m.take k++[m[k]]):=hid (List.take_succ_eq_append_getElem hlt')
    have HNE:Hid (l[k]≠m[k]→l≠m):=hid (fun h e=>h (by subst e;rfl))
    have bf:=hid hlt
    have O0:Hid True:=hid trivial
    clear hrd VF
    generalize l[k]=x at*
    generalize m[k]=y at*
    by_cases he:x=y
    ·subst he
     go_wp2_with fail
     go_quiet (fail)
     go_wp2_with fail
     go_roundw
     case rel=>exact⟨k+1,bf.out,by simp,hid (by rw[HT.out,HT'.out,HI.out]),hid (ai jM.out _)⟩
     case measure=>have:=bf.out;simp[intOf];omega
    ·have e1:((x:Int) !=(y:Int))=true:=by rw[bne_iff_ne];omega
     have e2:((x:Int)==(y:Int))=false:=by rw[beq_eq_false_iff_ne];omega
     have hdt:d=false:=by rw[HD.out,decide_eq_false_iff_not];exact HNE.out he
     subst hdt
     clear he
     go_wp2_with fail
     go_quiet (fail)
     go_wp2_with fail
     go_ret
     exact⟨rfl,ai jM.out _⟩
   ·obtain rfl:k=l.length:=by omega
    have j1:decide ((l.length:Int) < (l.length:Int))=false:=by rw[decide_eq_false_iff_not];omega
    have hdt:d=true:=by
     rw[HD.out,decide_eq_true_iff]
     have:=HI.out
     rwa [List.take_length,HLEN.out,List.take_length]at this
    subst hdt
    go_wp2_with fail
    go_ret
    exact⟨rfl,jM.out⟩
 ·have f1:((l.length:Int) !=(m.length:Int))=true:=by rw[bne_iff_ne];omega
  have f2:((l.length:Int)==(m.length:Int))=false:=by rw[beq_eq_false_iff_ne];omega
  have hdt:d=false:=by rw[HD.out,decide_eq_false_iff_not];exact fun h=>hlen (by rw[h])
  subst hdt
  go_enter Tryd.func13,Tryd.ntmps13
  go_wp2_with fail
  go_ret
  exact⟨rfl,af _⟩
def tV (L:List aH):Nat→Nat
 | 0=>0
 | k+1=>tV L k+1+(L.getD k aH.zero).reads.length+(L.getD k aH.zero).writes.length
theorem Ir (L:List aH):∀ k i,i < k→1+(L.getD i aH.zero).reads.length+(L.getD i aH.zero).writes.length≤tV L k
 | 0,i,h=>absurd h (Nat.not_lt_zero _)
 | k+1,i,h=>by
  unfold tV
  by_cases he:i=k
  ·subst he;omega
  ·have:=Ir L k i (by omega);omega
theorem wrap64_in {x:Int} (h:-9223372036854775808≤x∧x≤9223372036854775807):wrap64 x=x:=by unfold wrap64;omega
theorem LH {s nr nu:Nat} (h1:s < 1500) (h2:nr≤8796093022208) (h3:nu≤8796093022208):wrap64 (wrap64 ((s:Int)+1+(nr:Int))+(nu:Int))=((s+1+nr+nu:Nat):Int):=by
 rw[wrap64_in (x:=(s:Int)+1+(nr:Int)) (by omega),wrap64_in (by omega)]
 omega
set_option maxRecDepth 100000 in
set_option maxHeartbeats 4000000 in
theorem J5 (L:List aH) (w:World) (v:Value) (hr:jq w L v) (hb:∀ a∈L,a.reads.length≤8796093022208∧a.writes.length≤8796093022208):
  Calls Tryd.prog 15 #[v] w fun e' w'=>∃ q,e'=.returned (.bool q)∧(q=false→L.length≤60∧tV L L.length < 1500)∧Below w.heap.size w w':=by
 obtain⟨a,cap,rfl,hlen,hx⟩:=hr
 have HX:=hid hx;clear hx
 have HB:=hid hb;clear hb
 go_enter Tryd.func15,Tryd.ntmps15
 go_wp2_with fail
 go_loopw [3,4] (fun n i wr=>∃ k:Nat,k≤L.length∧i=.int .i64 k∧n=.int .i64 (tV L k:Nat)∧Hid (tV L k≤30000000000000)∧Hid (Below w.heap.size w wr)) (fun _ i _=>L.length-(intOf i).toNat)
 case atStart=>exact⟨0,Nat.zero_le _,rfl,rfl,hid (by unfold tV;omega),hid (af _)⟩
 case round=>
  obtain⟨k,hk,rfl,rfl,HS,jM⟩:=hrel
  by_cases hlt:k < L.length
  ·by_cases hn:tV L k < 1500
   ·obtain⟨b,off,rfl,hrd⟩:=HX.out (by intro h;subst h;simp at hlt)
    obtain⟨r,u,hc⟩:=hrd k hlt
    have hc:=hc.below jM.out
    have HT:Hid (tV L (k+1)=tV L k+1+L[k].reads.length+L[k].writes.length):=hid (by
     show _+_+(L.getD k aH.zero).reads.length+(L.getD k aH.zero).writes.length=_
     rw[List.getD_eq_getElem?_getD,List.getElem?_eq_getElem hlt];rfl)
    have hbb:=HB.out _ (List.getElem_mem hlt)
    obtain⟨ar,cr,hr⟩:=hc.reads.shape
    obtain⟨au,cu,hu⟩:=hc.writes.shape
    subst hr hu
    have d7:=hc.c7
    have d8:=hc.c8
    have hbl:=lt_of_cell d7
    have hlr:=L[k].reads.length
    generalize L[k].reads.length=nr at*
    generalize L[k].writes.length=nu at*
    generalize tV L k=s at*
    have bf:=hid hlt
    have HN:=hid hn
    have zL:=hid hbb
    have j1:decide ((k:Int) < (L.length:Int))=true:=by rw[decide_eq_true_iff];omega
    have j2:(0:Int)≤(k:Int):=by omega
    have j4:decide ((s:Int) < 1500)=true:=by rw[decide_eq_true_iff];omega
    have j5:IntKind.i64.wrap ((s:Int)+1)=((s+1:Nat):Int):=by rw[IntWalk.i64_in _ (by omega)];omega
    have j6:IntKind.i64.wrap (((s+1:Nat):Int)+(nr:Int))=((s+1+nr:Nat):Int):=by rw[IntWalk.i64_in _ (by omega)];omega
    have j7:IntKind.i64.wrap (((s+1+nr:Nat):Int)+(nu:Int))=((s+1+nr+nu:Nat):Int):=by rw[IntWalk.i64_in _ (by omega)];omega
    clear hc hrd hbb hn
    go_wp2_with fail
    go_quiet (fail)
    go_wp2_with fail
    go_roundw
    case rel=>exact⟨k+1,bf.out,by go_num,(by rw[HT.out];exact congrArg _ (LH HN.out zL.out.1 zL.out.2)),hid (by rw[HT.out];have:=zL.out;have:=HN.out;omega),hid (ai jM.out _)⟩
    case measure=>have:=bf.out;simp[intOf];omega
   ·generalize tV L k=s at*
    have j1:decide ((k:Int) < (L.length:Int))=true:=by rw[decide_eq_true_iff];omega
    have j4:decide ((s:Int) < 1500)=false:=by rw[decide_eq_false_iff_not];omega
    have j5:(1500:Int)≤(s:Int):=by omega
    have HN:=hid hn
    clear hn
    go_wp2_with fail
    go_ret
    exact⟨true,rfl,(fun h=>by cases h),jM.out⟩
  ·obtain rfl:k=L.length:=by omega
   have j1:decide ((L.length:Int) < (L.length:Int))=false:=by rw[decide_eq_false_iff_not];omega
   obtain⟨s,hs⟩:∃ s,s=tV L L.length:=⟨_,rfl⟩
   rw[←hs]
   have HSE:=hid hs
   clear hs
   by_cases hn:s < 1500
   ·have j5:decide ((1500:Int)≤(s:Int))=false:=by rw[decide_eq_false_iff_not];omega
    have HN:=hid hn
    by_cases hl:L.length≤60
    ·have j6:decide ((60:Int) < (L.length:Int))=false:=by rw[decide_eq_false_iff_not];omega
     have HL:=hid hl
     clear hn hl
     go_wp2_with fail
     go_ret
     exact⟨false,rfl,fun _=>⟨HL.out,by rw[←HSE.out];exact HN.out⟩,jM.out⟩
    ·have j6:(60:Int) < (L.length:Int):=by omega
     clear hn hl
     go_wp2_with fail
     go_ret
     exact⟨true,rfl,(fun h=>by cases h),jM.out⟩
   ·have j5:(1500:Int)≤(s:Int):=by omega
    clear hn
    go_wp2_with fail
    go_ret
    exact⟨true,rfl,(fun h=>by cases h),jM.out⟩
theorem TQ {L:List aH} {vars:List Int} (h1:L.length≤60) (h2:tV L L.length < 1500) (h3:vars.length≤100):(roots L vars).length+L.length*oq L≤1000000000000:=by
 have e1:=Au L vars
 have e2:oq L≤1500+L.length:=Jb fun a ha=>by
  obtain⟨k,hk,rfl⟩:=List.mem_iff_getElem.1 ha
  have:=Ir L L.length k hk
  rw[List.getD_eq_getElem?_getD,List.getElem?_eq_getElem hk]at this
  simp only[Option.getD_some]at this
  omega
 have:L.length*oq L≤60*1560:=Nat.mul_le_mul h1 (by omega)
 omega
theorem kept_len {L:List aH} {vars:List Int}:(kQ L vars).length≤L.length:=tX (lM L vars).1 (lM L vars).lt
set_option maxRecDepth 100000 in
set_option maxHeartbeats 4000000 in
theorem Pn (T V S:Int) (a a':Option Addr) (l:List Ev) (ca ca':Nat) (w:World) (hE:cO w a l) (hE':cO w a' l) (hl:l.length≤1000000000):
  Calls Tryd.prog 20 #[oZ T V S a l.length ca,oZ T V S a' l.length ca'] w fun e' w'=>e'=.returned (.bool true)∧Below w.heap.size w w':=by
 dsimp only[oZ]
 obtain⟨W,hW⟩:∃ W,W=(w.alloc (.cells #[.int .i64 T,.int .i64 V,.int .i64 S,.slice a l.length ca] 24)).alloc (.cells #[.int .i64 T,.int .i64 V,.int .i64 S,.slice a' l.length ca'] 24):=⟨_,rfl⟩
 have hB:Below w.heap.size w W:=by rw[hW];exact ah (ah (af _) _) _
 have hD:aA W w.heap.size #[.int .i64 T,.int .i64 V,.int .i64 S,.slice a l.length ca] 24:=by rw[hW];exact(aA.new _ _ _).alloc _
 have hD':aA W (w.heap.size+1) #[.int .i64 T,.int .i64 V,.int .i64 S,.slice a' l.length ca'] 24:=by rw[hW];exact aA.new' _ _ _ (World.size_alloc _ _).symm
 have HE:=hid (hE.below hB)
 have HE':=hid (hE'.below hB)
 have HB:=hid hB
 have HD:=hid hD
 have HD':=hid hD'
 have HL:=hid hl
 have OE:=hid tZ
 have HW:=hid hW
 have d0:=hD.cell 0 (v:=.int .i64 T) rfl
 have d1:=hD.cell 1 (v:=.int .i64 V) rfl
 have d2:=hD.cell 2 (v:=.int .i64 S) rfl
 have d3:=hD.cell 3 (v:=.slice a l.length ca) rfl
 have f0:=hD'.cell 0 (v:=.int .i64 T) rfl
 have f1:=hD'.cell 1 (v:=.int .i64 V) rfl
 have f2:=hD'.cell 2 (v:=.int .i64 S) rfl
 have f3:=hD'.cell 3 (v:=.slice a' l.length ca') rfl
 clear hE hE' hl hB hD hD' hW
 go_enter Tryd.func20,Tryd.ntmps20
 rw[HW.out]at d0 d1 d2 d3 f0 f1 f2 f3
 go_wp2_with fail
 rw[←HW.out]
 clear d0 d1 d2 d3 f0 f1 f2 f3
 go_loopw [5] (fun i wr=>∃ k:Nat,k≤l.length∧i=.int .i64 k∧Hid (Below W.heap.size W wr)) (fun i _=>l.length-(intOf i).toNat)
 case atStart=>exact⟨0,Nat.zero_le _,rfl,hid (af _)⟩
 case round=>
  obtain⟨k,hk,rfl,jM⟩:=hrel
  have hd:=HD.out.below jM.out
  have hd':=HD'.out.below jM.out
  have d3:=hd.cell 3 (v:=.slice a l.length ca) rfl
  have f3:=hd'.cell 3 (v:=.slice a' l.length ca') rfl
  clear hd hd'
  by_cases hlt:k < l.length
  ·obtain⟨b,o,hae,hcell⟩:=HE.out.2 (by intro h;rw[h]at hlt;simp at hlt)
   obtain⟨b',o',YF,hcell'⟩:=HE'.out.2 (by intro h;rw[h]at hlt;simp at hlt)
   subst hae YF
   have j1:decide ((k:Int) < (l.length:Int))=true:=by rw[decide_eq_true_iff];omega
   have j2:(0:Int)≤(k:Int):=by omega
   have j3:IntKind.i64.wrap ((k:Int)+1)=((k+1:Nat):Int):=by have:=HL.out;rw[IntWalk.i64_in _ (by omega)];omega
   have hrun:=OE.out l[k] l[k]
   have hself:oL l[k] l[k]=true:=by unfold oL;simp
   rw[hself]at hrun
   have hc1:=hcell k hlt
   have hc2:=hcell' k hlt
   generalize l[k]=X at*
   obtain⟨kind,th,tx,at_,v,x,why⟩:=X
   have e0:=later jM.out (hc1 0 (.int .u8 kind) rfl)
   have e1:=later jM.out (hc1 1 (.int .i64 th) rfl)
   have e2:=later jM.out (hc1 2 (.int .i64 tx) rfl)
   have e3:=later jM.out (hc1 3 (.int .i64 at_) rfl)
   have e4:=later jM.out (hc1 4 (.int .i64 v) rfl)
   have e5:=later jM.out (hc1 5 (.int .i64 x) rfl)
   have e6:=later jM.out (hc1 6 (.int .u8 why) rfl)
   have g0:=later jM.out (hc2 0 (.int .u8 kind) rfl)
   have g1:=later jM.out (hc2 1 (.int .i64 th) rfl)
   have g2:=later jM.out (hc2 2 (.int .i64 tx) rfl)
   have g3:=later jM.out (hc2 3 (.int .i64 at_) rfl)
   have g4:=later jM.out (hc2 4 (.int .i64 v) rfl)
   have g5:=later jM.out (hc2 5 (.int .i64 x) rfl)
   have g6:=later jM.out (hc2 6 (.int .u8 why) rfl)
   rw[Nat.add_zero]at e0 g0
   have hbl:=lt_of_cell e0
   have YC:=lt_of_cell g0
   unfold Op.equal Op.maxDepth at hrun
   dsimp only at hrun
   have bf:=hid hlt
   clear hcell hcell' hc1 hc2 hself
   go_wp2_with fail
   go_quiet (fail)
   go_wp2_with fail
   go_roundw
   case rel=>exact⟨k+1,bf.out,by go_num,hid (by first | exact ai jM.out _ | exact jM.out)⟩
   case measure=>have:=bf.out;simp[intOf];omega
  ·obtain rfl:k=l.length:=by omega
   have j1:decide ((l.length:Int) < (l.length:Int))=false:=by rw[decide_eq_false_iff_not];omega
   go_wp2_with fail
   go_ret
   exact⟨rfl,ag HB.out jM.out⟩
end Go.Proofs.YtcddlnmcjmhbcaaDoor
-- short
