/-
  Joined texts: SlQ SlW1 SlW2 SlA ShelfI SlI SlB SlK SlKp.
-/
import Derived.Test.YtcddlnmcjmhbcaaDoorSgD
import Derived.ArgAppend
import Derived.OwnWalkIn
import Derived.Laws.OwnMore
import Derived.RangeFuncSeq
import Derived.RangeFuncKeeps
import Derived.Test.YtcddlnmcjmhbcaaDoorProg
import Derived.WalkKit
import Derived.Deep.DeepCutAuto
import Derived.Deep.CutBlock
import Derived.BigQuiet
import Derived.RangeFuncNested
import Derived.RangeFuncBound
import Derived.RangeFuncCalls
import Derived.RangeFuncLeaves
import Derived.RangeFuncBox
import Derived.TacticsInMore
import Derived.LoopNIn
import Derived.LoopIn
import Derived.Test.YtcddlnmcjmhbcaaDoorHtB
import Derived.Shelf.Spec.SlicesInsertGrow
import Derived.Ground.Names2Prog
namespace Go.Proofs.YtcddlnmcjmhbcaaDoor
set_option linter.unusedVariables false
set_option linter.unusedSimpArgs false
open Go Go.RowKit
def iH (e:TypeId) (n₀:Nat) (W:World) (v:Value) (xs:List Int):Prop:=
 (v=.slice none 0 0∧xs=[])∨∃ g off cap cur,v=.slice (some ⟨g,off,none⟩) xs.length cap∧n₀≤g∧W.heap[g]? =some (.cells cur e (0,0))∧xs.length≤cap∧off+cap≤cur.size∧cap≤maxLen∧∀ j (h:j < xs.length),cur[off+j]? =some (.int .i64 xs[j])
theorem uM {w:World} {base base':Nat} {e:TypeId} {size:Nat} {v:Value} {n:Nat} {xs:List Value} (h:w.ownsRow base e size v n xs) (hb:base'≤base):w.ownsRow base' e size v n xs:=
 ⟨h.1,h.2.imp id fun⟨g,cap,cur,h1,h2,h3⟩=>⟨g,cap,cur,h1,Nat.le_trans hb h2,h3⟩⟩
theorem iH.nil (e:TypeId) (n₀:Nat) (W:World):iH e n₀ W (.slice none 0 0) []:=.inl ⟨rfl,rfl⟩
theorem iH.MB {e n₀:Nat} {W:World} {v:Value} {xs:List Int} (h:W.ownsRow n₀ e 1 v xs.length (xs.map (.int .i64))):iH e n₀ W v xs:=by
 rcases h.2 with⟨rfl,h0⟩ | ⟨g,cap,cur,rfl,hb,hg,h1,h2,h3,h4⟩
 ·exact .inl ⟨rfl,List.eq_nil_of_length_eq_zero h0⟩
 ·refine .inr ⟨g,0,cap,cur,rfl,hb,hg,h1,by omega,h2,fun j hj=>?_⟩
  have:(xs.map (Value.int .i64))[j]? =some (.int .i64 xs[j]):=by rw[List.getElem?_map,List.getElem?_eq_getElem hj];rfl
  rw[←h4,List.getElem?_take,if_pos (by omega),Array.getElem?_toList]at this
  rw[Nat.zero_add];exact this
theorem iH.shape {e n₀:Nat} {W:World} {v:Value} {xs:List Int} (h:iH e n₀ W v xs):∃ a cap,v=.slice a xs.length cap:=by
 rcases h with⟨rfl,rfl⟩ | ⟨g,off,cap,cur,rfl,_⟩
 ·exact⟨none,0,rfl⟩
 ·exact⟨_,_,rfl⟩
theorem iH.lt {e n₀:Nat} {W:World} {v:Value} {xs:List Int} (h:iH e n₀ W v xs):∀ g,v.ownBlock=some g→n₀≤g∧g < W.heap.size∧∃ cur,W.heap[g]? =some (.cells cur e (0,0)):=by
 intro g hg
 rcases h with⟨rfl,_⟩ | ⟨g',off,cap,cur,rfl,hb,hh,_⟩
 ·simp[Value.ownBlock]at hg
 ·obtain rfl:g'=g:=by simpa[Value.ownBlock]using hg
  exact⟨hb,(Array.getElem?_eq_some_iff.1 hh).1,cur,hh⟩
theorem iH.kept {e n₀:Nat} {W W':World} {v:Value} {xs:List Int} {row:Option Nat} (h:iH e n₀ W v xs) (hg:W.grownBy W' row) (hne:v.ownBlock=none∨v.ownBlock≠row):iH e n₀ W' v xs:=by
 rcases h with h | ⟨g,off,cap,cur,rfl,hb,hh,rest⟩
 ·exact .inl h
 ·refine .inr ⟨g,off,cap,cur,rfl,hb,?_,rest⟩
  rw[hg.block g (Array.getElem?_eq_some_iff.1 hh).1 (by simpa[Value.ownBlock]using hne)]
  exact hh
theorem iH.calm {e n₀:Nat} {W W':World} {v:Value} {xs:List Int} (h:iH e n₀ W v xs) (hg:W.grownBy W' none):iH e n₀ W' v xs:=h.kept hg (by cases v.ownBlock <;> simp)
theorem iH.alloc {e n₀:Nat} {W:World} {v:Value} {xs:List Int} (h:iH e n₀ W v xs) (o:Obj):iH e n₀ (W.alloc o) v xs:=h.calm (World.grownBy_alloc _ _ _)
theorem iH.other {e n₀:Nat} {W:World} {v:Value} {xs:List Int} (h:iH e n₀ W v xs) {b o:Nat} {cs:Array Value} {t:TypeId} (hb:aA W b cs t) (ht:t≠e) (u:Value):iH e n₀ (W.setCell ⟨b,o,none⟩ u) v xs:=by
 refine h.kept (row:=some b) ⟨rfl,rfl,rfl,by simp[World.setCell],fun k _ hk=>Below.heap_setCell _ _ _ k (fun e=>hk (by rw[e]))⟩ (.inr fun hv=>?_)
 obtain⟨_,_,cur,hc⟩:=h.lt b hv
 unfold aA at hb
 rw[hb]at hc
 cases hc
 exact ht rfl
theorem iH.ne {e n₀:Nat} {W:World} {v:Value} {xs:List Int} (h:iH e n₀ W v xs) {b:Nat} {cs:Array Value} {t:TypeId} (hb:aA W b cs t) (ht:t≠e):some b≠v.ownBlock:=by
 intro hv
 obtain⟨_,_,cur,hc⟩:=h.lt b hv.symm
 unfold aA at hb
 rw[hb]at hc
 cases hc
 exact ht rfl
theorem iH.mJ {e n₀:Nat} {W W':World} {v:Value} {xs:List Int} (h:iH e n₀ W v xs) {row:Option Nat} (hg:W.grownBy W' row) (hr:∀ r,row=some r→∃ o:Obj,W.heap[r]? =some o∧o.isCells=false):iH e n₀ W' v xs:=by
 refine h.kept hg ?_
 rcases hv:v.ownBlock with _ | g
 ·exact .inl rfl
 ·refine .inr fun e'=>?_
  obtain⟨_,_,cur,hc⟩:=h.lt g hv
  obtain⟨o,ho,h1⟩:=hr g e'.symm
  rw[hc]at ho;cases ho;cases h1
theorem aA.mJ {W W':World} {b:Nat} {cs:Array Value} {t:TypeId} (h:aA W b cs t) {row:Option Nat} (hg:W.grownBy W' row) (hr:∀ r,row=some r→∃ o:Obj,W.heap[r]? =some o∧o.isCells=false):aA W' b cs t:=by
 unfold aA at h⊢
 rw[hg.block b (Array.getElem?_eq_some_iff.1 h).1 (fun e=>by obtain⟨o,ho,h1⟩:=hr b e.symm;rw[h]at ho;cases ho;cases h1)]
 exact h
theorem aA.grew {W W':World} {b:Nat} {cs:Array Value} {t:TypeId} {row:Option Nat} (h:aA W b cs t) (hg:W.grownBy W' row) (hne:some b≠row):aA W' b cs t:=by
 unfold aA at h⊢
 rw[hg.block b (Array.getElem?_eq_some_iff.1 h).1 hne];exact h
theorem iH.head {e n₀:Nat} {W:World} {v:Value} {x:Int} {xs:List Int} (h:iH e n₀ W v (x :: xs)):∃ g off cap,v=.slice (some ⟨g,off,none⟩) (xs.length+1) cap∧1≤cap∧xs.length+1≤cap∧cap≤maxLen∧W.cell? ⟨g,off,none⟩=some (.int .i64 x)∧
  iH e n₀ W (.slice (if cap=1 then some ⟨g,off,none⟩else some ⟨g,off+1,none⟩) xs.length (cap-1)) xs:=by
 rcases h with⟨_,h⟩ | ⟨g,off,cap,cur,rfl,hb,hh,h1,h2,h3,h4⟩
 ·cases h
 ·simp only[List.length_cons]at h1 h4⊢
  refine⟨g,off,cap,rfl,by omega,h1,h3,?_,?_⟩
  ·have:=h4 0 (by omega)
   simp only[Nat.add_zero,List.getElem_cons_zero]at this
   simp[World.cell?,hh,this]
  ·by_cases hc:cap=1
   ·subst hc
    obtain rfl:xs=[]:=List.eq_nil_of_length_eq_zero (by omega)
    exact .inr ⟨g,off,0,cur,by rw[if_pos rfl],hb,hh,Nat.le_refl _,by omega,by omega,fun j hj=>absurd hj (Nat.not_lt_zero _)⟩
   ·refine .inr ⟨g,off+1,cap-1,cur,by rw[if_neg hc],hb,hh,by omega,by omega,by omega,fun j hj=>?_⟩
    have:=h4 (j+1) (by omega)
    rw[List.getElem_cons_succ]at this
    rw[show off+1+j=off+(j+1) by omega];exact this
section
variable {P:Program}
theorem BF (w:World) (n₀:Nat) (t ty e:TypeId) (i:TypeInfo) (ht:P.underlying t=some (.slice e)) (hi:P.info? e=some i) (hz:i.zero=some (.int .i64 0)) (hsize:i.size=1) (hby:i.bytes=8)
  (v:Value) (xs:List Int) (h:iH e n₀ w v xs) (ad:Addr) (c:Nat) (x:Int) (hx:w.cell? ad=some (.int .i64 x)) (h48:xs.length+1≤17592186044415) (hn:n₀≤w.heap.size):
  ∃ v' w',(Builtin.append_ #[t,t] ty #[v,.slice (some ad) 1 c]).run P w=.ok v' w'∧iH e n₀ w' v' (xs++[x])∧w.grownBy w' v.ownBlock∧(v'.ownBlock=v.ownBlock∨∃ q,v'.ownBlock=some q∧w.heap.size≤q):=by
 have hnews:∀ j u,[Value.int .i64 x][j]? =some u→w.cell? (ad.add j)=some u:=by
  intro j u hu
  rcases j with _ | j
  ·simp at hu;subst hu;simpa[Addr.add]using hx
  ·simp at hu
 have hz1:(Value.int .i64 0).cells.size=1:=rfl
 have hmap:(xs++[x]).map (Value.int .i64)=xs.map (Value.int .i64)++[Value.int .i64 x]:=by rw[List.map_append];rfl
 have hml:∀ n:Nat,n≤17592186044415→n≤maxLen:=fun n hn=>by unfold maxLen;omega
 rcases h with⟨rfl,rfl⟩ | ⟨g,off,cap,cur,rfl,hb,hh,h1,h2,h3,h4⟩
 ·obtain⟨v',w',hrun,r1,r2,r3⟩:=run_append_own (P:=P) w w.heap.size t ty e i (.int .i64 0) 1 8 ht hi hz hsize hby hz1 (by decide) (.slice none 0 0) 0 [] (World.ownsRow_nil w _ e 1) ad 1 c [.int .i64 x] rfl hnews (by simp[Value.oneCell']) (by unfold maxLen;omega) (by omega) (Nat.le_refl _)
  refine⟨v',w',hrun,iH.MB (by simpa using uM r1 hn),r2,.inr ?_⟩
  rcases r1.2 with⟨_,h0⟩ | ⟨g,cap,cur,rfl,hb,_⟩
  ·omega
  ·exact⟨g,rfl,hb⟩
 ·have hcell:∀ j,j < xs.length→w.cell? ⟨g,off+j,none⟩=some (.int .i64 xs[j]!):=fun j hj=>by
   simp[World.cell?,hh,h4 j hj,hj]
  by_cases hr:xs.length+1≤cap
  ·have hlt:off+xs.length < cur.size:=by omega
   have hrun:=run_append_room_cells (P:=P) w t ty e i ht hi g off xs.length cap ad 1 c [.int .i64 x] (by rw[hsize];rfl) hnews (by simp[Value.oneCell']) hr
    (fun j hj=>by
     have:j=0:=by simpa using hj
     subst this
     rw[hsize]
     simp[World.cell?,hh,Array.getElem?_eq_getElem hlt])
    (fun j hj=>by simp[World.frozen?,hh])
   rw[hsize,Nat.mul_one]at hrun
   refine⟨_,_,hrun,.inr ⟨g,off,cap,cur.setIfInBounds (off+xs.length) (.int .i64 x),by simp,hb,?_,by simpa using hr,by simpa using h2,h3,fun j hj=>?_⟩,⟨rfl,rfl,rfl,by simp[World.setCells,World.setCell],fun k _ hk=>?_⟩,.inl rfl⟩
   ·simp[World.setCells,World.setCell,Array.getElem?_modify,hh]
   ·have hj':j < xs.length+1:=by simpa using hj
    by_cases he:j=xs.length
    ·subst he
     rw[Array.getElem?_setIfInBounds,if_pos rfl,if_pos hlt]
     simp
    ·rw[Array.getElem?_setIfInBounds,if_neg (by omega),h4 j (by omega),List.getElem_append_left (by omega)]
   ·show(w.setCell ⟨g,off+xs.length,none⟩ _).heap[k]? =_
    exact Below.heap_setCell _ _ _ k (fun e=>hk (by rw[e];rfl))
  ·obtain⟨v',w',hrun,r1,r2⟩:=run_append_arg_grows (P:=P) w t ty e i (.int .i64 0) 1 8 ht hi hz hsize hby hz1 (by decide) ⟨g,off,none⟩ xs.length cap (xs.map (.int .i64)) (by simp)
    (fun j u hu=>by
     rw[Addr.add_lit]
     rw[List.getElem?_map]at hu
     obtain⟨y,hy,rfl⟩:=Option.map_eq_some_iff.1 hu
     obtain⟨hj,rfl⟩:=List.getElem?_eq_some_iff.1 hy
     simp[World.cell?,hh,h4 j hj]) ad 1 c [.int .i64 x] rfl hnews (by omega) (hml _ h48) (by omega)
   refine⟨v',w',hrun,iH.MB (by rw[hmap,List.length_append];exact uM r1 hn),⟨r2.os,r2.tape,r2.output,r2.size,fun k hk _=>r2.block k hk (by simp)⟩,.inr ?_⟩
   rcases r1.2 with⟨_,h0⟩ | ⟨g',cap',cur',rfl,hb',_⟩
   ·omega
   ·exact⟨g',rfl,hb'⟩
theorem kC {F:Fence} {n:Nat} (w:World) {ops:Array Oper} {rest:List Oper} {o:Oper} {a:Act} {Q:Exit→Act→World→Prop} (hgd:o.guard=none) (s x:Operand) (t:TypeId)
  (ho:o.op=.call { callee:=.builtin .append,args:=#[s,x],argTypes:=#[t,t] }) (n₀:Nat) (e:TypeId) (i:TypeInfo) (ht:P.underlying t=some (.slice e)) (hi:P.info? e=some i) (hz:i.zero=some (.int .i64 0)) (hsize:i.size=1) (hby:i.bytes=8)
  (v:Value) (xs:List Int) (hs:a.eval s=v) (h:iH e n₀ w v xs) (ad:Addr) (c:Nat) (y:Int) (hx:a.eval x=.slice (some ad) 1 c) (hy:w.cell? ad=some (.int .i64 y)) (h48:xs.length+1≤17592186044415) (hn:n₀≤w.heap.size)
  (hK:∀ v' w',iH e n₀ w' v' (xs++[y])→w.grownBy w' v.ownBlock→(v'.ownBlock=v.ownBlock∨∃ q,v'.ownBlock=some q∧w.heap.size≤q)→wpListIn F n P ops Q rest (a.put o.dst v') w'):wpListIn F n P ops Q (o :: rest) a w:=by
 refine wpListIn_plain hgd fun K hK'=>?_
 obtain⟨v',w',hrun,r1,r2,r3⟩:=BF (P:=P) w n₀ t o.type e i ht hi hz hsize hby v xs h ad c y hy h48 hn
 unfold Oper.wpIn
 refine⟨?_,?_⟩
 ·simp[Oper.about,ho,resolve,Target.leads,Sem.run_pure]
 ·rw[Oper.semAt_plain F _ _ (by rw[ho];intro c hc';cases hc')]
  simp[execOp,ho,resolve,invoke,builtin,hs,hx,hrun,Result.andThen]
  exact hK' _ _ (hK v' w' r1 r2 r3)
end
def rU (v:Int):List (Int×Int)→Nat→Int
 | [],_=>-1
 | x :: xs,k=>if(x.1==v)=true then k else rU v xs (k+1)
theorem Ky (v:Int) (l:List (Int×Int)) (k:Nat):decide (0≤rU v l k)=l.any (fun p=>p.1==v):=by
 induction l generalizing k with
 | nil=>simp[rU]
 | cons x xs ih=>
  simp only[rU,List.any_cons]
  split
  ·rename_i h;simp[h]
  ·rename_i h;simp[ih,h]
theorem G6 (v:Int) (l:List (Int×Int)) (k:Nat) (h:k < l.length):rU v (l.drop k) k=if(l[k].1==v)=true then(k:Int)else rU v (l.drop (k+1)) (k+1):=by
 rw[List.drop_eq_getElem_cons h];rfl
set_option maxRecDepth 100000 in
set_option maxHeartbeats 4000000 in
theorem FC (p1 p2 v:Int) (b:Nat) (w:World) (h:w.cell? ⟨b,0,none⟩=some (.int .i64 v)):
  Calls Tryd.prog 70 #[.agg #[.int .i64 p1,.int .i64 p2],.pointer (some ⟨b,0,none⟩)] w fun e w'=>e=.returned (.bool (p1==v))∧Below w.heap.size w w':=by
 have h1:(w.alloc (.cells #[.int .i64 p1,.int .i64 p2] 61)).cell? ⟨b,0,none⟩=some (.int .i64 v):=aG h
 have hl:=lt_of_cell h
 go_enter Tryd.func70,Tryd.ntmps70
 go_wp2_with fail
 go_ret
 exact⟨rfl,ah (af _) _⟩
set_option maxRecDepth 100000 in
set_option maxHeartbeats 4000000 in
theorem J7 (l:List (Int×Int)) (v:Int) (c:Nat) (w:World) (sv:Value) (hr:fJ w l sv) (hc:w.cell? ⟨c,0,none⟩=some (.int .i64 v)):
  Calls Tryd.prog 90 #[sv,.func (.func 70) #[] #[.pointer (some ⟨c,0,none⟩)]] w fun e' w'=>e'=.returned (.int .i64 (rU v l 0))∧Below w.heap.size w w':=by
 obtain⟨a,cap,rfl,hlen,hok,hx⟩:=hr
 have HX:=hid hx;clear hx
 go_enter Tryd.func90,Tryd.ntmps90
 go_wp2_with fail
 go_loopw [8] (fun i wr=>∃ k:Nat,k≤l.length∧i=.int .i64 k∧Hid (rU v l 0=rU v (l.drop k) k)∧Below w.heap.size w wr) (fun i _=>l.length-(intOf i).toNat)
 case atStart=>exact⟨0,Nat.zero_le _,rfl,rfl,af _⟩
 case round=>
  obtain⟨k,hk,rfl,HF,hb⟩:=hrel
  by_cases hlt:k < l.length
  ·obtain⟨b,off,rfl,hrd⟩:=HX.out (by intro h;subst h;simp at hlt)
   obtain⟨c0,c1⟩:=hrd k hlt
   have d0:=later hb c0
   have d1:=later hb c1
   have HC:=hid (later hb hc)
   have HD:=hid (G6 v l k hlt)
   clear c0 c1 hrd
   go_wp2_with fail
   refine(FC _ _ v c _ HC.out).mono ?_
   rintro e w1 ⟨rfl,hb1⟩
   obtain⟨q,hq⟩:∃ q,q=(l[k].1==v):=⟨_,rfl⟩
   rw[←hq]
   have HQ:=hid hq
   clear hq
   cases q
   ·go_wp2_with fail
    go_roundw
    case rel=>exact⟨k+1,hlt,by go_num,hid (by rw[HF.out,HD.out,←HQ.out];simp),ag hb hb1⟩
    case measure=>simp[intOf];omega
   ·go_wp2_with fail
    go_ret
    exact⟨gy (by rw[HF.out,HD.out,←HQ.out];simp),ag hb hb1⟩
  ·obtain rfl:k=l.length:=by omega
   go_wp2_with fail
   go_ret
   exact⟨gy (by rw[HF.out];simp[rU]),hb⟩
set_option maxRecDepth 100000 in
set_option maxHeartbeats 4000000 in
theorem CO (l:List (Int×Int)) (v:Int) (c:Nat) (w:World) (sv:Value) (hr:fJ w l sv) (hc:w.cell? ⟨c,0,none⟩=some (.int .i64 v)):
  Calls Tryd.prog 69 #[sv,.func (.func 70) #[] #[.pointer (some ⟨c,0,none⟩)]] w fun e' w'=>e'=.returned (.bool (l.any fun p=>p.1==v))∧Below w.heap.size w w':=by
 have HI:=hid (J7 l v c w sv hr hc)
 have HF:=hid (Ky v l 0)
 generalize rU v l 0=i at HI HF
 obtain⟨q,hq⟩:∃ q,q=decide ((0:Int)≤i):=⟨_,rfl⟩
 have hqi:decide ((0:Int)≤i)=q:=hq.symm
 rw[hqi]at HF
 rw[←HF.out]
 obtain⟨a,cap,rfl⟩:=hr.shape
 clear hr hq
 go_enter Tryd.func69,Tryd.ntmps69
 go_wp2_with fail
 refine HI.out.mono ?_
 rintro e' w1 ⟨rfl,hb1⟩
 cases q
 all_goals
  go_wp2_with fail
  go_ret
  exact⟨rfl,hb1⟩
set_option maxRecDepth 100000 in
set_option maxHeartbeats 4000000 in
theorem O7 (L:List aH) (w:World) (v:Value) (hr:jq w L v):
  Calls Tryd.prog 33 #[v] w fun e' w'=>e'=.returned (.int .i64 (qP L))∧Below w.heap.size w w':=by
 obtain⟨a,cap,rfl,hlen,hx⟩:=hr
 have HX:=hid hx;clear hx
 go_enter Tryd.func33,Tryd.ntmps33
 go_wp2_with fail
 go_loopw [3,8] (fun n i wr=>∃ k:Nat,k≤L.length∧i=.int .i64 k∧n=.int .i64 (DF L k)∧Below w.heap.size w wr) (fun _ i _=>L.length-(intOf i).toNat)
 case atStart=>exact⟨0,Nat.zero_le _,rfl,rfl,af _⟩
 case round=>
  obtain⟨k,hk,rfl,rfl,hb⟩:=hrel
  by_cases hlt:k < L.length
  ·obtain⟨b,off,rfl,hrd⟩:=HX.out (by intro h;subst h;simp at hlt)
   obtain⟨r,u,hc⟩:=hrd k hlt
   have hc:=hc.below hb
   obtain⟨ar,cr,hr⟩:=hc.reads.shape
   obtain⟨au,cu,hu⟩:=hc.writes.shape
   have hT:DF L (k+1)=max (DF L k) L[k].wv:=by
    show max (DF L k) (L.getD k aH.zero).wv=_
    rw[List.getD_eq_getElem?_getD,List.getElem?_eq_getElem hlt];rfl
   subst hr hu
   have d0:=hc.c0
   have d1:=hc.c1
   have d2:=hc.c2
   have d3:=hc.c3
   have d4:=hc.c4
   have d5:=hc.c5
   have d6:=hc.c6
   have d7:=hc.c7
   have d8:=hc.c8
   have hbl:=lt_of_cell d0
   have HT:=hid hT
   clear hc hrd hT
   go_wp2_with fail
   all_goals
    go_roundw
    case rel=>exact⟨k+1,hlt,by go_num,(by rw[HT.out];try (first | go_num | (congr 1;omega))),ah hb _⟩
    case measure=>simp[intOf];omega
  ·obtain rfl:k=L.length:=by omega
   go_wp2_with fail
   go_ret
   exact⟨rfl,hb⟩
theorem FD (L:List aH) (v most:Int) (k:Nat):-1≤gK L v most k∧gK L v most k < k∨gK L v most k=-1:=by
 rcases tN L v most k with⟨h,_⟩ | ⟨h1,h2,_⟩
 ·exact .inr h
 ·exact .inl ⟨by omega,h2⟩
theorem BA (L:List aH) (v most:Int) (k:Nat) (h:k < L.length):gK L v most (k+1)=if((decide (0 < L[k].wv)&&decide (L[k].wv≤most)&&(L[k].writes.any fun p=>p.1==v))&&(decide (gK L v most k < 0)||decide ((L.getD (gK L v most k).toNat aH.zero).wv < L[k].wv)))=true then(k:Int)else gK L v most k:=by
 show(if(rY (L.getD k aH.zero) v most&&_)=true then _ else _)=_
 rw[show L.getD k aH.zero=L[k] by rw[List.getD_eq_getElem?_getD,List.getElem?_eq_getElem h];rfl]
 rfl
set_option maxRecDepth 100000 in
set_option maxHeartbeats 4000000 in
theorem xU (L:List aH) (v most:Int) (w:World) (sv:Value) (hr:jq w L sv):
  Calls Tryd.prog 34 #[sv,.int .i64 v,.int .i64 most] w fun e' w'=>e'=.returned (.int .i64 (dB L v most))∧Below w.heap.size w w':=by
 obtain⟨a,cap,rfl,hlen,hx⟩:=hr
 have HX:=hid hx;clear hx
 go_enter Tryd.func34,Tryd.ntmps34
 go_wp2_with fail
 go_loopw [7,13] (fun n i wr=>∃ k:Nat,k≤L.length∧i=.int .i64 k∧n=.int .i64 (gK L v most k)∧Hid (Below w.heap.size w wr)∧wr.cell? ⟨w.heap.size,0,none⟩=some (.int .i64 v)) (fun _ i _=>L.length-(intOf i).toNat)
 case atStart=>exact⟨0,Nat.zero_le _,rfl,rfl,hid (ah (af _) _),(aA.new _ _ _).cell 0 rfl⟩
 case round=>
  obtain⟨k,hk,rfl,rfl,HB,hv⟩:=hrel
  by_cases hlt:k < L.length
  ·obtain⟨b,off,rfl,hrd⟩:=HX.out (by intro h;subst h;simp at hlt)
   obtain⟨r,u,hc⟩:=hrd k hlt
   have hc:=hc.below HB.out
   obtain⟨ar,cr,hr⟩:=hc.reads.shape
   obtain⟨au,cu,hu⟩:=hc.writes.shape
   have Wu:=hid (BA L v most k hlt)
   have hge:=FD L v most k
   subst hr hu
   have d0:=hc.c0
   have d1:=hc.c1
   have d2:=hc.c2
   have d3:=hc.c3
   have d4:=hc.c4
   have d5:=hc.c5
   have d6:=hc.c6
   have d7:=hc.c7
   have d8:=hc.c8
   have hbl:=lt_of_cell d0
   have HW:=hid hc.writes
   have bf:=hid hlt
   have HV:=hid hv
   have RN:Hid (∀ j:Nat,j < L.length→wr.cell? ⟨b,off+j*9+5,none⟩=some (.int .i64 (L.getD j aH.zero).wv)):=hid (fun j hj=>by
    obtain⟨r',u',hc'⟩:=hrd j hj
    have:=(hc'.below HB.out).c5
    rw[List.getD_eq_getElem?_getD,List.getElem?_eq_getElem hj]
    exact this)
   generalize gK L v most k=best at*
   clear hc hrd hv
   go_wp2_with fail
   have hA:Below wr.heap.size wr (wr.alloc (.cells #[.int .i64 L[k].th,.int .i64 L[k].tx,.int .i64 L[k].from_,.int .i64 L[k].dI,.int .i64 L[k].rv,.int .i64 L[k].wv,.bool L[k].com,.slice ar L[k].reads.length cr,.slice au L[k].writes.length cu] 58)):=ah (af _) _
   have hblk:=aA.new wr #[.int .i64 L[k].th,.int .i64 L[k].tx,.int .i64 L[k].from_,.int .i64 L[k].dI,.int .i64 L[k].rv,.int .i64 L[k].wv,.bool L[k].com,.slice ar L[k].reads.length cr,.slice au L[k].writes.length cu] 58
   refine(CO L[k].writes v w.heap.size _ _ (HW.out.below hA) (later hA HV.out)).mono ?_
   rintro e' w1 ⟨rfl,hb1⟩
   have hA1:=ag hA hb1
   have f5:=(hblk.below hb1).cell 5 (v:=.int .i64 L[k].wv) rfl
   have HB1:=hid (ag HB.out hA1)
   have U4:=hid (later hA1 HV.out)
   have UL:Hid (∀ j:Nat,j < L.length→w1.cell? ⟨b,off+j*9+5,none⟩=some (.int .i64 (L.getD j aH.zero).wv)):=hid (fun j hj=>later hA1 (RN.out j hj))
   have hlw:=lt_of_cell f5
   have YB:b < w1.heap.size:=Nat.lt_of_lt_of_le hbl hA1.size
   clear d0 d1 d2 d3 d4 d5 d6 d7 d8 hblk hA hb1 hA1 RN HV HB hbl
   generalize hX:L[k].wv=X at*
   generalize (L[k].writes.any fun p=>p.1==v)=q at*
   by_cases h1:(0:Int) < X
   ·by_cases h2:X≤most
    ·cases q
     ·go_wp2_with fail
      go_quiet (fail)
      go_wp2_with fail
      go_roundw
      case rel=>exact⟨k+1,bf.out,by go_num,by rw[Wu.out];simp,hid (ai HB1.out _),U4.out⟩
      case measure=>have:=bf.out;simp[intOf];omega
     ·by_cases h3:best < 0
      ·go_wp2_with fail
       go_quiet (fail)
       go_wp2_with fail
       go_roundw
       case rel=>exact⟨k+1,bf.out,by go_num,by rw[Wu.out];simp[h1,h2,h3],hid (ai HB1.out _),U4.out⟩
       case measure=>have:=bf.out;simp[intOf];omega
      ·obtain⟨j,rfl⟩:∃ j:Nat,best=(j:Int):=⟨best.toNat,by omega⟩
       have hj:j < L.length:=by omega
       have j1:decide ((j:Int) < (L.length:Int))=true:=by rw[decide_eq_true_iff];omega
       have j2:(0:Int)≤(j:Int):=by omega
       have j3:((j:Int) < (L.length:Int)):=by omega
       have g5:=UL.out j hj
       have HS2:=hid (Wu.out)
       rw[show((j:Int)).toNat=j from Int.toNat_natCast j]at HS2
       generalize (L.getD j aH.zero).wv=Y at*
       have h3':decide ((j:Int) < 0)=false:=by rw[decide_eq_false_iff_not];omega
       by_cases h4:Y < X
       ·go_wp2_with fail
        go_quiet (fail)
        go_wp2_with fail
        go_roundw
        case rel=>exact⟨k+1,bf.out,by go_num,by rw[HS2.out];simp[h1,h2,h4],hid (ai HB1.out _),U4.out⟩
        case measure=>have:=bf.out;simp[intOf];omega
       ·have h4':decide (Y < X)=false:=by rw[decide_eq_false_iff_not];exact h4
        go_wp2_with fail
        go_quiet (fail)
        go_wp2_with fail
        go_roundw
        case rel=>exact⟨k+1,bf.out,by go_num,by rw[HS2.out];simp[h4',h3'],hid (ai HB1.out _),U4.out⟩
        case measure=>have:=bf.out;simp[intOf];omega
    ·have h2':decide (X≤most)=false:=by rw[decide_eq_false_iff_not];exact h2
     go_wp2_with fail
     go_quiet (fail)
     go_wp2_with fail
     go_roundw
     case rel=>exact⟨k+1,bf.out,by go_num,by rw[Wu.out];simp[h2'],hid (ai HB1.out _),U4.out⟩
     case measure=>have:=bf.out;simp[intOf];omega
   ·have h1':decide ((0:Int) < X)=false:=by rw[decide_eq_false_iff_not];exact h1
    go_wp2_with fail
    go_quiet (fail)
    go_wp2_with fail
    go_roundw
    case rel=>exact⟨k+1,bf.out,by go_num,by rw[Wu.out];simp[h1'],hid (ai HB1.out _),U4.out⟩
    case measure=>have:=bf.out;simp[intOf];omega
  ·obtain rfl:k=L.length:=by omega
   go_wp2_with fail
   go_ret
   exact⟨rfl,HB.out⟩
attribute [local go_sem] Oper.semAt_some
def vg (a:aH) (r u:Value):Array Value:=#[.int .i64 a.th,.int .i64 a.tx,.int .i64 a.from_,.int .i64 a.dI,.int .i64 a.rv,.int .i64 a.wv,.bool a.com,r,u]
set_option maxRecDepth 100000 in
set_option maxHeartbeats 4000000 in
theorem KT (sv:Value) (x:Option Addr) (n c:Nat) (a:aH) (ar:Option Addr) (nr cr:Nat) (au:Option Addr) (nu cu:Nat) (w:World) (hv:sv=.slice x n c):
  Calls Tryd.prog 36 #[sv,.agg (vg a (.slice ar nr cr) (.slice au nu cu))] w fun e w'=>e=.returned (.func (.func 73) #[] #[.pointer (some ⟨w.heap.size+1,0,none⟩),.pointer (some ⟨w.heap.size,0,none⟩)])∧
   w'=(w.alloc (.cells #[sv] 29)).alloc (.cells (vg a (.slice ar nr cr) (.slice au nu cu)) 58):=by
 subst hv
 unfold vg
 go_enter Tryd.func36,Tryd.ntmps36
 go_wp2_with fail
 go_ret
 exact⟨rfl,rfl⟩
def zK (n₀ B1 B2:Nat) (c1 c2:Array Value) (W W':World):Prop:=qC n₀ W W'∧(aA W B1 c1 58→aA W' B1 c1 58)∧(aA W B2 c2 29→aA W' B2 c2 29)
theorem P7 {n₀ B1 B2:Nat} {c1 c2:Array Value} {A B C:World} (h:zK n₀ B1 B2 c1 c2 A B) (k:zK n₀ B1 B2 c1 c2 B C):zK n₀ B1 B2 c1 c2 A C:=⟨yP h.1 k.1,fun x=>k.2.1 (h.2.1 x),fun x=>k.2.2 (h.2.2 x)⟩
theorem P8 {n₀ B1 B2:Nat} {c1 c2:Array Value} {w:World} (hn:n₀≤w.heap.size) (h1:B1 < w.heap.size) (h2:B2 < w.heap.size) (W:World) (l:Nat) (o o':Obj) (hl:w.heap.size≤l) (h:W.heap[l]? =some o) (hc:o.isCells=false) (hw:o.isWalk=false):zK n₀ B1 B2 c1 c2 W (W.putObj l o'):=
 ⟨yQ hn W l o o' hl h hc hw,fun x=>by unfold aA at x⊢;rw[World.putObj_heap_other (by omega)];exact x,fun x=>by unfold aA at x⊢;rw[World.putObj_heap_other (by omega)];exact x⟩
theorem iY.still {B:Nat} {J:World→Prop} (h:iY B J) {W W':World} (hJ:J W) (hb:Below W.heap.size W W'):J W':=h W W' Option.none hJ ⟨hb.os,hb.tape,hb.output,hb.size,fun k hk _=>hb.block k hk⟩ (fun r e=>by cases e)
def rf (L:List aH) (a:aH) (p:Int×Int):Option Nat:=if 0≤dB L p.1 a.rv then some (dB L p.1 a.rv).toNat else none
theorem xk (L:List aH) (a:aH) (k:Nat) (h:k < a.reads.length):(a.reads.take (k+1)).filterMap (rf L a)=(a.reads.take k).filterMap (rf L a)++(rf L a a.reads[k]).toList:=by
 rw[List.take_succ_eq_append_getElem h,List.filterMap_append]
 simp only[List.filterMap_cons,List.filterMap_nil]
 cases rf L a a.reads[k] <;> rfl
theorem Ia (L:List aH) (a:aH) (k:Nat) (h:k < a.reads.length) (q:Nat) (hq:rf L a a.reads[k]=some q):
  ((a.reads.take k).filterMap (rf L a)).length < (asked L a).length∧(asked L a).getD ((a.reads.take k).filterMap (rf L a)).length 0=q:=by
 have e1:l9 L a=a.reads.filterMap (rf L a):=rfl
 have e2:a.reads.filterMap (rf L a)=(a.reads.take (k+1)).filterMap (rf L a)++(a.reads.drop (k+1)).filterMap (rf L a):=by rw[←List.filterMap_append,List.take_append_drop]
 unfold asked
 rw[e1,e2,xk L a k h,hq]
 constructor
 ·simp only[List.length_append,Option.toList_some,List.length_cons,List.length_nil];omega
 ·rw[List.getD_eq_getElem?_getD,List.append_assoc,List.append_assoc,List.getElem?_append_right (Nat.le_refl _),Nat.sub_self]
  rfl
def tf (L:List aH) (a:aH) (i:Nat):Bool:=mP a (L.getD i aH.zero)
theorem su (L:List aH) (a:aH) (k:Nat):(List.range (k+1)).filter (tf L a)=(List.range k).filter (tf L a)++(if tf L a k=true then[k]else[]):=by
 rw[List.range_succ,List.filter_append]
 simp only[List.filter_cons,List.filter_nil]
theorem range_split (L:List aH) (a:aH) (k:Nat):∀ n,k≤n→∃ r,(List.range n).filter (tf L a)=(List.range k).filter (tf L a)++r
 | 0,h=>by
  have:k=0:=by omega
  subst this
  exact⟨[],by simp⟩
 | n+1,h=>by
  by_cases he:k=n+1
  ·subst he;exact⟨[],by simp⟩
  ·obtain⟨r,hr⟩:=range_split L a k n (by omega)
   exact⟨r++(if tf L a n=true then[n]else[]),by rw[su,hr,List.append_assoc]⟩
theorem H9 (L:List aH) (a:aH) (k:Nat) (h:k < L.length) (hq:tf L a k=true):
  (l9 L a).length+((List.range k).filter (tf L a)).length < (asked L a).length∧(asked L a).getD ((l9 L a).length+((List.range k).filter (tf L a)).length) 0=k:=by
 have e1:zH L a=(List.range L.length).filter (tf L a):=rfl
 obtain⟨r,hr⟩:=range_split L a (k+1) L.length h
 unfold asked
 rw[e1,hr,su,if_pos hq]
 constructor
 ·simp only[List.length_append,List.length_cons,List.length_nil];omega
 ·rw[List.getD_eq_getElem?_getD,List.getElem?_append_right (by omega),show(l9 L a).length+((List.range k).filter (tf L a)).length-(l9 L a).length=((List.range k).filter (tf L a)).length by omega,List.append_assoc,List.getElem?_append_right (Nat.le_refl _),Nat.sub_self]
  rfl
set_option maxRecDepth 100000 in
set_option maxHeartbeats 4000000 in
theorem Oh (n:Nat) (hn:1≤n) (lp B1 B2:Nat) (L:List aH) (sv:Value) (a:aH) (r u:Value) (w0:World) (J:Nat→World→Prop) (W:World) (hab:∀ k,iY W.heap.size (J k)) (hL:jq w0 L sv) (ha:fJ w0 a.reads r) (ha':fJ w0 a.writes u) (hb:Below w0.heap.size w0 W)
  (hY:∀ k W1,J k W1→k < (asked L a).length→YieldAt Fence.wide (n-1) Tryd.prog lp #[.int .i64 ((asked L a).getD k 0:Nat)] W1 fun e W'=>e=.returned (.bool true)∧J (k+1) W'∧zK w0.heap.size B1 B2 (vg a r u) #[sv] W1 W')
  (h1:aA W B1 (vg a r u) 58) (h2:aA W B2 #[sv] 29) (h0:J 0 W):
  CallsIn Fence.wide n Tryd.prog 73 #[.func (.yield lp) #[] #[],.pointer (some ⟨B1,0,none⟩),.pointer (some ⟨B2,0,none⟩)] W fun e W'=>(∃ v,e=.returned v)∧J (asked L a).length W':=by
 obtain⟨x,cap,rfl,hlen,hx⟩:=id hL
 obtain⟨ar,cr,rfl,hrl,hro,hrx⟩:=id ha
 obtain⟨au,cu,rfl⟩:=ha'.shape
 have HX:=hid hx
 have HRX:=hid hrx
 have HAB:=hid hab
 have HY:=hid hY
 have HL:=hid hL
 have HB0:=hid hb
 have Z4:=hid h1
 have ZZ:=hid h2
 have Vb:=hid h0
 have c7:W.cell? ⟨B1,7,none⟩=some (.slice ar a.reads.length cr):=h1.cell 7 rfl
 have YB:=h1.lt
 clear hx hrx hab hY hL hb h1 h2 h0 ha ha' hro
 refine callsIn_of_wp Tryd.func73 rfl trivial ?_ rfl
 simp only[Tryd.ntmps73,List.size_toArray,List.length_cons,List.length_nil,Nat.reduceAdd,Nat.reduceSub,Array.replicate_succ,Array.replicate_zero,List.push_toArray,List.append_toArray,List.nil_append,List.cons_append]
 gi_wp2
 gi_loopw [12] (fun i wr=>∃ (k:Nat),k≤a.reads.length∧i=.int .i64 (k:Int)∧Hid (J ((a.reads.take k).filterMap (rf L a)).length wr)∧Hid (Below w0.heap.size w0 wr)∧Hid (aA wr B1 (vg a (.slice ar a.reads.length cr) (.slice au a.writes.length cu)) 58)∧Hid (aA wr B2 #[.slice x L.length cap] 29)∧Hid (W.heap.size≤wr.heap.size)) (fun i _=>a.reads.length-(intOf i).toNat)
 case atStart=>exact⟨0,Nat.zero_le _,rfl,Vb,HB0,Z4,ZZ,hid (Nat.le_refl _)⟩
 case round=>
  obtain⟨k,hk,rfl,HJ,HB,uF,tq,vK⟩:=hrel
  by_cases hlt:k < a.reads.length
  ·obtain⟨b,o,rfl,hcell⟩:=HRX.out (by intro h;rw[h]at hlt;simp at hlt)
   obtain⟨p0,p1⟩:=hcell k hlt
   have d0:=later HB.out p0
   have d1:=later HB.out p1
   have j1:decide ((k:Int) < (a.reads.length:Int))=true:=by rw[decide_eq_true_iff];omega
   have j2:(0:Int)≤(k:Int):=by omega
   have j3:IntKind.i64.wrap ((k:Int)+1)=(k:Int)+1:=IntWalk.i64_in _ (by omega)
   have j4:decide (k < a.reads.length)=true:=by rw[decide_eq_true_iff];omega
   have hA:=ah (af wr) (.cells #[.int .i64 a.reads[k].1,.int .i64 a.reads[k].2] 61)
   have g2:=(tq.out.below hA).cell 0 (v:=.slice x L.length cap) rfl
   have g1:=(uF.out.below hA).cell 4 (v:=.int .i64 a.rv) rfl
   have hbw:=lt_of_cell d0
   have l1:=uF.out.lt
   have l2:=tq.out.lt
   have bf:=hid hlt
   have HW:=hid (xU L a.reads[k].1 a.rv (wr.alloc (.cells #[.int .i64 a.reads[k].1,.int .i64 a.reads[k].2] 61)) _ (HL.out.below (ag HB.out hA)))
   have HT:=hid (xk L a k hlt)
   have HG:=hid (Ia L a k hlt)
   have vG:Hid (rf L a a.reads[k]=if 0≤dB L a.reads[k].1 a.rv then some (dB L a.reads[k].1 a.rv).toNat else none):=hid rfl
   generalize dB L a.reads[k].1 a.rv=q at HW vG
   generalize rf L a a.reads[k]=rfk at HT HG vG
   clear hcell p0 p1
   gi_wp2_with (first
    | (refine⟨trivial,?_⟩;gi_at_call 34;refine(callsIn_wide.2 HW.out).mono ?_;rintro e' w2 ⟨rfl,hb2⟩;(have HA2:=hid (ag hA hb2));(by_cases hq:(0:Int)≤q)))
   ·obtain⟨m,rfl⟩:∃ m:Nat,q=(m:Int):=⟨q.toNat,by omega⟩
    have hrf:rfk=some m:=by rw[vG.out,if_pos hq];simp
    obtain⟨hG1,hG2⟩:=HG.out m hrf
    have hJ2:J ((a.reads.take k).filterMap (rf L a)).length w2:=iY.still (HAB.out _) HJ.out HA2.out
    obtain⟨fn,tmps,assign,body,hy,hR⟩:=HY.out _ w2 hJ2 hG1
    rw[hG2]at hy
    gi_wp2
    rw[hy]
    gi_wp2
    refine hR.mono ?_
    rintro e' W3 ⟨rfl,hJ3,hk3⟩
    have UG:=hid (hk3.2.1 (uF.out.below HA2.out))
    have UF:=hid (hk3.2.2 (tq.out.below HA2.out))
    have HB3:=hid ((ag HB.out HA2.out).trans hk3.1.1)
    have QU:=hid hJ3
    have Fh:=hid (Nat.le_trans vK.out (Nat.le_trans HA2.out.size hk3.1.1.size))
    clear hJ3 hk3
    gi_wp2
    go_roundw
    case rel=>exact⟨k+1,by have:=bf.out;omega,by simp,by rw[HT.out,hrf];simpa using QU,HB3,UG,UF,Fh⟩
    case measure=>have:=bf.out;simp[intOf];omega
   ·have hrf:rfk=none:=by rw[vG.out,if_neg (by omega)]
    have hq':decide ((0:Int)≤q)=false:=decide_eq_false (by omega)
    gi_wp2
    refine⟨(fun f h=>by cases h),?_⟩
    gi_wp2
    go_roundw
    case rel=>exact⟨k+1,by have:=bf.out;omega,by simp,by rw[HT.out,hrf];simpa using hid (iY.still (HAB.out _) HJ.out HA2.out),hid (ag HB.out HA2.out),hid (uF.out.below HA2.out),hid (tq.out.below HA2.out),hid (Nat.le_trans vK.out HA2.out.size)⟩
    case measure=>have:=bf.out;simp[intOf];omega
  ·obtain rfl:k=a.reads.length:=by omega
   have Vb:Hid (J (l9 L a).length wr):=hid (by have:=HJ.out;rwa [List.take_length]at this)
   have j1:decide ((a.reads.length:Int) < (a.reads.length:Int))=false:=by rw[decide_eq_false_iff_not];omega
   have j4:decide (a.reads.length < a.reads.length)=false:=by rw[decide_eq_false_iff_not];omega
   have g2:=tq.out.cell 0 (v:=.slice x L.length cap) rfl
   have l2:=tq.out.lt
   gi_wp2
   gi_loopw [33] (fun i wr=>∃ (k:Nat),k≤L.length∧i=.int .i64 (k:Int)∧Hid (J ((l9 L a).length+((List.range k).filter (tf L a)).length) wr)∧Hid (Below w0.heap.size w0 wr)∧Hid (aA wr B1 (vg a (.slice ar a.reads.length cr) (.slice au a.writes.length cu)) 58)∧Hid (aA wr B2 #[.slice x L.length cap] 29)∧Hid (W.heap.size≤wr.heap.size)) (fun i _=>L.length-(intOf i).toNat)
   case atStart=>exact⟨0,Nat.zero_le _,rfl,Vb,HB,uF,tq,vK⟩
   case round=>
    clear g2 l2 uF tq HB vK HJ Vb j1 j4
    obtain⟨k,hk,rfl,HJ,HB,uF,tq,vK⟩:=hrel
    by_cases hlt:k < L.length
    ·obtain⟨b,o,rfl,hcell⟩:=HX.out (by intro h;rw[h]at hlt;simp at hlt)
     obtain⟨r9,u9,hc⟩:=hcell k hlt
     have hc:=hc.below HB.out
     obtain⟨a7,k7,VH⟩:=hc.reads.shape
     obtain⟨a8,k8,VG⟩:=hc.writes.shape
     subst VH VG
     have d0:=hc.c0
     have d1:=hc.c1
     have d2:=hc.c2
     have d3:=hc.c3
     have d4:=hc.c4
     have d5:=hc.c5
     have d6:=hc.c6
     have d7:=hc.c7
     have d8:=hc.c8
     have hbl:=lt_of_cell d0
     have j1:decide ((k:Int) < (L.length:Int))=true:=by rw[decide_eq_true_iff];omega
     have j2:(0:Int)≤(k:Int):=by omega
     have j3:IntKind.i64.wrap ((k:Int)+1)=(k:Int)+1:=IntWalk.i64_in _ (by omega)
     have j4:decide (k < L.length)=true:=by rw[decide_eq_true_iff];omega
     have bf:=hid hlt
     have HT:=hid (su L a k)
     have HG:=hid (H9 L a k hlt)
     have OY:Hid (tf L a k=(L[k].com&&decide (L[k].th=a.th)&&decide (L[k].tx < a.tx))):=hid (by
      show mP a (L.getD k aH.zero)=_
      rw[List.getD_eq_getElem?_getD,List.getElem?_eq_getElem hlt];rfl)
     have hA:=ah (af wr) (.cells #[.int .i64 L[k].th,.int .i64 L[k].tx,.int .i64 L[k].from_,.int .i64 L[k].dI,.int .i64 L[k].rv,.int .i64 L[k].wv,.bool L[k].com,.slice a7 L[k].reads.length k7,.slice a8 L[k].writes.length k8] 58)
     have HA:=hid hA
     have e0:=(uF.out.below hA).cell 0 (v:=.int .i64 a.th) rfl
     have e1:=(uF.out.below hA).cell 1 (v:=.int .i64 a.tx) rfl
     have l1:=uF.out.lt
     have y0:=uF.out.cell 0 (v:=.int .i64 a.th) rfl
     have y1:=uF.out.cell 1 (v:=.int .i64 a.tx) rfl
     generalize tf L a k=O8 at HT HG OY
     generalize L[k].com=cm at*
     generalize L[k].th=YT at*
     generalize L[k].tx=ctx at*
     have Ip:O8=false→J ((l9 L a).length+((List.range (k+1)).filter (tf L a)).length) (wr.alloc (.cells #[.int .i64 YT,.int .i64 ctx,.int .i64 L[k].from_,.int .i64 L[k].dI,.int .i64 L[k].rv,.int .i64 L[k].wv,.bool cm,.slice a7 L[k].reads.length k7,.slice a8 L[k].writes.length k8] 58)):=by
      intro ht
      rw[HT.out,ht]
      simpa using iY.still (HAB.out _) HJ.out HA.out
     have Ip:=hid Ip
     clear hc hcell hA
     cases cm
     ·have htk:O8=false:=by rw[OY.out];rfl
      gi_wp2
      refine⟨(fun f h=>by cases h),?_⟩
      gi_wp2
      go_roundw
      case rel=>exact⟨k+1,bf.out,by simp,hid (Ip.out htk),hid (ag HB.out HA.out),hid (uF.out.below HA.out),hid (tq.out.below HA.out),hid (Nat.le_trans vK.out HA.out.size)⟩
      case measure=>have:=bf.out;simp[intOf];omega
     ·by_cases h1:YT=a.th
      ·subst h1
       by_cases h2:ctx < a.tx
       ·have htk:O8=true:=by rw[OY.out];simp[h2]
        obtain⟨hG1,hG2⟩:=HG.out htk
        obtain⟨fn,tmps,assign,body,hy,hR⟩:=HY.out _ _ (iY.still (HAB.out _) HJ.out HA.out) hG1
        rw[hG2]at hy
        gi_wp2
        erw [hy]
        gi_wp2
        refine hR.mono ?_
        rintro e' W3 ⟨rfl,hJ3,hk3⟩
        have UG:=hid (hk3.2.1 (uF.out.below HA.out))
        have UF:=hid (hk3.2.2 (tq.out.below HA.out))
        have HB3:=hid ((ag HB.out HA.out).trans hk3.1.1)
        have QU:=hid hJ3
        have Fh:=hid (Nat.le_trans vK.out (Nat.le_trans HA.out.size hk3.1.1.size))
        clear hJ3 hk3
        gi_wp2
        go_roundw
        case rel=>exact⟨k+1,by have:=bf.out;omega,by simp,by rw[HT.out,htk];simpa[Nat.add_assoc]using QU,HB3,UG,UF,Fh⟩
        case measure=>have:=bf.out;simp[intOf];omega
       ·have htk:O8=false:=by rw[OY.out];simp[h2]
        have f2:decide (ctx < a.tx)=false:=decide_eq_false h2
        gi_wp2
        refine⟨(fun f h=>by cases h),?_⟩
        gi_wp2
        go_roundw
        case rel=>exact⟨k+1,bf.out,by simp,hid (Ip.out htk),hid (ag HB.out HA.out),hid (uF.out.below HA.out),hid (tq.out.below HA.out),hid (Nat.le_trans vK.out HA.out.size)⟩
        case measure=>have:=bf.out;simp[intOf];omega
      ·have htk:O8=false:=by rw[OY.out];simp[h1]
       have f1:(YT==a.th)=false:=beq_eq_false_iff_ne.2 h1
       gi_wp2
       refine⟨(fun f h=>by cases h),?_⟩
       gi_wp2
       go_roundw
       case rel=>exact⟨k+1,bf.out,by simp,hid (Ip.out htk),hid (ag HB.out HA.out),hid (uF.out.below HA.out),hid (tq.out.below HA.out),hid (Nat.le_trans vK.out HA.out.size)⟩
       case measure=>have:=bf.out;simp[intOf];omega
    ·obtain rfl:k=L.length:=by omega
     have j1:decide ((L.length:Int) < (L.length:Int))=false:=by rw[decide_eq_false_iff_not];omega
     have j4:decide (L.length < L.length)=false:=by rw[decide_eq_false_iff_not];omega
     have hend:J (asked L a).length wr:=by have:=HJ.out;unfold asked;rw[List.length_append];exact this
     gi_wp2
     go_end0
     exact⟨⟨_,rfl⟩,hend⟩
end Go.Proofs.YtcddlnmcjmhbcaaDoor
namespace Go.Proofs.YtcddlnmcjmhbcaaDoor
set_option linter.unusedVariables false
open Go.Shelf
def dF:Go.Shelf.Ren:=⟨fun | 21=>35 | 27=>71 | 28=>72 | 35=>91 | 39=>95 | n=>n,fun | 22=>32 | 3=>3 | 4=>4 | 0=>0 | n=>n,fun | n=>n⟩
theorem uT:Go.Proofs.Lays2.n21 Tryd.prog dF:={
 mixed:=by kernel_rfl
 f21:=Tryd.func35.trans (congrArg some (by kernel_rfl))
 f27:=Tryd.func71.trans (congrArg some (by kernel_rfl))
 f28:=Tryd.func72.trans (congrArg some (by kernel_rfl))
 f35:=Tryd.func91.trans (congrArg some (by kernel_rfl))
 f39:=Tryd.func95.trans (congrArg some (by kernel_rfl))
 t0:=Tryd.underlying0
 a0:=Tryd.isAgg0
 z0:=Tryd.sizeOf0
 v0:=Tryd.zeroValue0
 t3:=Tryd.underlying3
 a3:=Tryd.isAgg3
 z3:=Tryd.sizeOf3
 v3:=Tryd.zeroValue3
 t4:=Tryd.underlying4
 a4:=Tryd.isAgg4
 z4:=Tryd.sizeOf4
 v4:=Tryd.zeroValue4
 t22:=Tryd.underlying32
 a22:=Tryd.isAgg32
 z22:=Tryd.sizeOf32
 v22:=Tryd.zeroValue32
 i3:=by kernel_rfl }
end Go.Proofs.YtcddlnmcjmhbcaaDoor
namespace Go.Proofs.YtcddlnmcjmhbcaaDoor.In
set_option linter.unusedVariables false
open Go Go.RowKit Go.Shelf
set_option maxRecDepth 100000
set_option maxHeartbeats 4000000
set_option linter.unusedSimpArgs false
structure xC (w w':World):Prop where
 os:w'.os=w.os
 tape:w'.tape=w.tape
 output:w'.output=w.output
theorem xC.trans {a b c:World} (h:xC a b) (k:xC b c):xC a c:=⟨k.os.trans h.os,k.tape.trans h.tape,k.output.trans h.output⟩
def ow {α:Type}:List α→List α→Nat→List α
 | [],cs,_=>cs
 | v :: vs,cs,off=>ow vs (cs.set off v) (off+1)
theorem mQ {α:Type}:∀ (vs cs:List α) (off:Nat),(ow vs cs off).length=cs.length
 | [],_,_=>rfl
 | v :: vs,cs,off=>by simp[ow,mQ vs]
theorem cell_of {W:World} {b i:Nat} {c:Array Value} {el:TypeId} {fr:Nat×Nat} (h:W.heap[b]? =some (.cells c el fr)):W.cell? ⟨b,i,none⟩=c[i]?:=by
 simp[World.cell?,h]
theorem AZ {W:World} {b i:Nat} {c:Array Value} {el:TypeId} {lo hi:Nat} (h:W.heap[b]? =some (.cells c el (lo,hi))):W.frozen? ⟨b,i,none⟩=(decide (lo≤i)&&decide (i < hi)):=by
 simp[World.frozen?,h]
theorem addr_add (b off i:Nat):(⟨b,off,none⟩:Addr).add i=⟨b,off+i,none⟩:=by
 unfold Addr.add
 split
 ·subst_vars;rfl
 ·rfl
theorem yB {α:Type}:∀ (us l:List α) (k j:Nat),k+us.length≤l.length→(ow us l k)[j]? =if k≤j∧j < k+us.length then us[j-k]? else l[j]?
 | [],l,k,j,_=>by
  rw[if_neg (by simp only[List.length_nil];omega)]
  rfl
 | u :: us,l,k,j,h=>by
  simp only[List.length_cons]at h
  show(ow us (l.set k u) (k+1))[j]? =_
  rw[yB us (l.set k u) (k+1) j (by rw[List.length_set];omega)]
  simp only[List.length_cons]
  by_cases h1:k+1≤j∧j < k+1+us.length
  ·rw[if_pos h1,if_pos (by omega),show j-k=(j-(k+1))+1 by omega,List.getElem?_cons_succ]
  ·rw[if_neg h1]
   by_cases h2:j=k
   ·subst h2
    rw[if_pos (by omega),List.getElem?_set,if_pos rfl,if_pos (by omega),Nat.sub_self]
    rfl
   ·rw[if_neg (by omega),List.getElem?_set,if_neg (fun e=>h2 e.symm)]
theorem IP {α:Type} (cv vs:List α) (i j:Nat) (hv:vs.length=1) (hi:i≤cv.length):(cv.take i++vs++cv.drop i)[j]? =if j < i then cv[j]? else if j=i then vs[0]? else cv[j-1]?:=by
 have e1:(cv.take i).length=i:=by rw[List.length_take];omega
 by_cases h1:j < i
 ·rw[if_pos h1,List.getElem?_append_left (by rw[List.length_append,e1];omega),List.getElem?_append_left (by omega),List.getElem?_take,if_pos h1]
 ·rw[if_neg h1]
  by_cases h2:j=i
  ·subst h2
   rw[if_pos rfl,List.getElem?_append_left (by rw[List.length_append,e1];omega),List.getElem?_append_right (by omega),e1,Nat.sub_self]
  ·rw[if_neg h2,List.getElem?_append_right (by rw[List.length_append,e1];omega),List.length_append,e1,List.getElem?_drop,hv,show i+(j-(i+1))=j-1 by omega]
theorem IM {α:Type} (cv vs X:List α) (i:Nat) (hv:vs.length=1) (hi:i < cv.length) (hX:cv.length+1≤X.length) (hp:∀ j,j < i→X[j]? =cv[j]?):
  (ow (cv.drop i) (ow vs X i) (i+1)).take (cv.length+1)=cv.take i++vs++cv.drop i∧(ow vs (ow (cv.drop i) X (i+1)) i).take (cv.length+1)=cv.take i++vs++cv.drop i:=by
 have hd:(cv.drop i).length=cv.length-i:=List.length_drop
 have key:∀ j,(if j < cv.length+1 then(if i+1≤j∧j < i+1+(cv.length-i)then(cv.drop i)[j-(i+1)]? else if i≤j∧j < i+1 then vs[j-i]? else X[j]?)else none)=if j < i then cv[j]? else if j=i then vs[0]? else cv[j-1]?:=by
  intro j
  by_cases h0:j < cv.length+1
  ·rw[if_pos h0]
   by_cases h1:j < i
   ·rw[if_neg (by omega),if_neg (by omega),if_pos h1,hp j h1]
   ·by_cases h2:j=i
    ·subst h2
     rw[if_neg (by omega),if_pos (by omega),if_neg h1,if_pos rfl,Nat.sub_self]
    ·rw[if_pos (by omega),if_neg h1,if_neg h2,List.getElem?_drop,show i+(j-(i+1))=j-1 by omega]
  ·rw[if_neg h0,if_neg (by omega),if_neg (by omega)]
   symm
   exact List.getElem?_eq_none (by omega)
 constructor
 ·refine List.ext_getElem? fun j=>?_
  rw[IP cv vs i j hv (by omega),←key j,List.getElem?_take,yB _ _ _ _ (by rw[mQ,hd];omega),yB _ _ _ _ (by omega),hd,hv]
 ·refine List.ext_getElem? fun j=>?_
  rw[IP cv vs i j hv (by omega),←key j,List.getElem?_take,yB _ _ _ _ (by rw[mQ];omega),yB _ _ _ _ (by rw[hd];omega),hd,hv]
  by_cases h1:i≤j∧j < i+1
  ·rw[if_pos h1,if_neg (show ¬ (i+1≤j∧j < i+1+(cv.length-i)) by omega),if_pos h1]
  ·rw[if_neg h1,if_neg h1]
theorem iO (b:Nat):∀ (vs:List Value) (o:Nat) (w:World) (c:Array Value) (el:TypeId) (fr:Nat×Nat),w.heap[b]? =some (.cells c el fr)→(w.setCells b o vs).heap[b]? =some (.cells ⟨ow vs c.toList o⟩ el fr)∧(∀ k,k≠b→(w.setCells b o vs).heap[k]? =w.heap[k]?)∧xC w (w.setCells b o vs)
 | [],o,w,c,el,fr,h=>⟨h,fun _ _=>rfl,⟨rfl,rfl,rfl⟩⟩
 | v :: r,o,w,c,el,fr,h=>by
  have h1:(w.setCell ⟨b,o,none⟩ v).heap[b]? =some (.cells (c.setIfInBounds o v) el fr):=by simp[World.setCell,Array.getElem?_modify,h]
  obtain⟨a1,a2,a3⟩:=iO b r (o+1) (w.setCell ⟨b,o,none⟩ v) _ el fr h1
  refine⟨?_,fun k hk=>?_,⟨a3.os,a3.tape,a3.output⟩⟩
  ·show((w.setCell ⟨b,o,none⟩ v).setCells b (o+1) r).heap[b]? =_
   rw[a1]
   simp[ow]
  ·show((w.setCell ⟨b,o,none⟩ v).setCells b (o+1) r).heap[k]? =_
   rw[a2 k hk]
   simp[World.setCell,Array.getElem?_modify,Ne.symm hk]
theorem xI (n:Nat):(Builtin.zeroCells (Value.int .i64 0).cells n).size=n:=by rw[size_zeroCells];exact Nat.mul_one n
theorem Iz (cv vs:List Value) (Z:Array Value):((cv++vs).toArray++Z).toList=cv++vs++Z.toList:=by rw[Array.toList_append]
theorem alloc_at (w:World) (ob:Obj):(w.alloc ob).heap[w.heap.size]? =some ob:=by show(w.heap.push ob)[w.heap.size]? =some ob;rw[Array.getElem?_push,if_pos rfl]
theorem uz (w:World) (ob:Obj) (k:Nat) (hk:k < w.heap.size):(w.alloc ob).heap[k]? =w.heap[k]?:=by show(w.heap.push ob)[k]? =_;rw[Array.getElem?_push,if_neg (by omega)]
theorem ins_any (n₀:Nat) (v:Value) (n i vb vc:Nat) (cv:List Value) (x:Value) (W:World) (hown:W.ownsRow n₀ 3 1 v n cv) (h1c:∀ u∈cv,u.oneCell'=true) (h1x:x.oneCell'=true) (hi:i≤n) (hvb:aA W vb #[x] 3) (hne:v.ownBlock≠some vb) (hbig:n+1≤17592186044415) (hn₀:n₀≤W.heap.size):
  Calls Tryd.prog 35 #[v,.int .i64 (i:Int),.slice (some ⟨vb,0,none⟩) 1 vc] W fun e w'=>∃ v',e=.returned v'∧w'.ownsRow n₀ 3 1 v' (n+1) (cv.take i++[x]++cv.drop i)∧W.grownBy w' v.ownBlock∧(v'.ownBlock=v.ownBlock∨∃ q,v'.ownBlock=some q∧W.heap.size≤q):=by
 have Kr:cv.length=n:=by have:=hown.1;omega
 have hvs:∀ j u,[x][j]? =some u→W.cell? ⟨vb,0+j,none⟩=some u:=fun j u hj=>by
  rcases j with _ | j
  ·simp at hj;subst hj;exact hvb.cell 0 rfl
  ·simp at hj
 have h1v:∀ u∈[x],u.oneCell'=true:=fun u hu=>by rw[List.mem_singleton.1 hu];exact h1x
 have hB:n+1≤maxLen:=by unfold maxLen;omega
 have Gl:∀ (X:List Value) (G:Nat) (W':World),W'.heap[W.heap.size]? =some (.cells ⟨X⟩ 3 (0,0))→(∀ k,k < W.heap.size→W'.heap[k]? =W.heap[k]?)→X.take (n+1)=cv.take i++[x]++cv.drop i→X.length=G→n+1≤G→G≤maxLen→xC W W'→
   ∃ v',(Ending.returned (.slice (some ⟨W.heap.size,0,none⟩) (n+1) G))=.returned v'∧W'.ownsRow n₀ 3 1 v' (n+1) (cv.take i++[x]++cv.drop i)∧W.grownBy W' v.ownBlock∧(v'.ownBlock=v.ownBlock∨∃ q,v'.ownBlock=some q∧W.heap.size≤q):=by
  intro X G W' q1 q2 hX hG hl hm ho
  have hlt:=(Array.getElem?_eq_some_iff.1 q1).1
  refine⟨_,rfl,⟨?_,.inr ⟨W.heap.size,G,⟨X⟩,rfl,hn₀,q1,hl,hm,by rw[Nat.mul_one];exact hG,by rw[Nat.mul_one];exact hX⟩⟩,⟨ho.os,ho.tape,ho.output,by omega,fun k hk _=>q2 k hk⟩,.inr ⟨_,rfl,Nat.le_refl _⟩⟩
  rw[List.length_append,List.length_append,List.length_take,List.length_drop,List.length_singleton];omega
 rcases hown.2 with⟨rfl,h0⟩ | ⟨g,cap,c,rfl,hb,hh,hcap,hcm,hsz,htk⟩
 ·subst h0
  obtain rfl:i=0:=by omega
  obtain rfl:cv=[]:=List.eq_nil_of_length_eq_zero Kr
  refine(Any2.slices_Insert_int_end_grow uT none 0 0 vb 0 1 vc [] [x] W (by decide) (by decide) (by decide) (by decide) rfl rfl (fun _=>rfl) (fun a h=>by cases h) hvs h1v).mono fun e W' ⟨he,hw⟩=>?_
  subst he
  have hg:=grownCap_ge W (0+1) 0 (dF.t 3)
  have hg':=grownCap_le_maxLen W (0+1) 0 (dF.t 3) (by decide)
  refine Gl (([]++[x]).toArray++Builtin.zeroCells (Value.int .i64 0).cells (grownCap W (0+1) 0 (dF.t 3)-(0+1))).toList _ W' (by rw[hw];exact alloc_at W _) (fun k hk=>by rw[hw];exact uz W _ k hk) ?_ ?_ hg hg' (by rw[hw];exact⟨rfl,rfl,rfl⟩)
  ·rw[Iz];simp
  ·have e1:∀ A:Array Value,A.toList.length=A.size:=fun _=>rfl
   rw[e1,Array.size_append,xI]
   have e2:(([]++[x]:List Value).toArray).size=1:=rfl
   rw[e2];omega
 ·have hsz:c.size=cap:=by rw[hsz,Nat.mul_one]
  have htk:c.toList.take n=cv:=by rw[←htk,Nat.mul_one]
  have hcs:∀ j u,cv[j]? =some u→W.cell? ⟨g,0+j,none⟩=some u:=fun j u hj=>by
   rw[cell_of hh,Nat.zero_add]
   rw[←htk,List.getElem?_take]at hj
   split at hj
   ·rw[Array.getElem?_toList]at hj;exact hj
   ·cases hj
  have hgv:vb≠g:=fun e=>hne (by rw[e];rfl)
  have inPlace:∀ (X:List Value) (W':World),n+1≤cap→W'.heap[g]? =some (.cells ⟨X⟩ 3 (0,0))→X.length=c.size→X.take (n+1)=cv.take i++[x]++cv.drop i→(∀ k,k≠g→W'.heap[k]? =W.heap[k]?)→W.heap.size≤W'.heap.size→xC W W'→
    ∃ v',(Ending.returned (.slice (some ⟨g,0,none⟩) (n+1) cap))=.returned v'∧W'.ownsRow n₀ 3 1 v' (n+1) (cv.take i++[x]++cv.drop i)∧W.grownBy W' (Value.slice (some ⟨g,0,none⟩) n cap).ownBlock∧(v'.ownBlock=(Value.slice (some ⟨g,0,none⟩) n cap).ownBlock∨∃ q,v'.ownBlock=some q∧W.heap.size≤q):=by
   intro X W' hr q1 hX hXt q2 hs ho
   refine⟨_,rfl,⟨?_,.inr ⟨g,cap,⟨X⟩,rfl,hb,q1,hr,hcm,by rw[Nat.mul_one];show X.length=cap;omega,by rw[Nat.mul_one];exact hXt⟩⟩,⟨ho.os,ho.tape,ho.output,hs,fun k _ hk=>q2 k (fun e=>hk (by rw[e];rfl))⟩,.inl rfl⟩
   rw[List.length_append,List.length_append,List.length_take,List.length_drop,List.length_singleton];omega
  have X5:∀ (vs:List Value) (o:Nat) (w:World),(w.setCells g o vs).heap.size=w.heap.size:=by
   intro vs
   induction vs with
   | nil=>intro o w;rfl
   | cons v r ih=>intro o w;show((w.setCell ⟨g,o,none⟩ v).setCells g (o+1) r).heap.size=_;rw[ih];simp[World.setCell]
  by_cases hroom:n+1≤cap
  ·by_cases hin:i < n
   ·have Yk:W.shape? vb=some (3,1):=by have:=hvb;unfold aA at this;simp[World.shape?,this]
    have Yj:W.shape? g=some (3,c.size):=by simp[World.shape?,hh]
    refine(Any2.slices_Insert_int_shift uT g 0 n cap i vb 0 1 vc cv [x] W hin (by decide) hroom (by unfold maxLen at hcm;omega) hgv Kr rfl hcs (fun j hj=>?_) (fun j hj=>?_) hvs h1c h1v 3 3 1 c.size Yk Yj (by omega) (hvb.free _) (hvb.free _)).mono fun e W' ⟨he,hw⟩=>?_
    ·rw[cell_of hh,Array.getElem?_eq_getElem (by omega)];rfl
    ·rw[AZ hh];simp
    ·subst he
     obtain⟨a1,a2,a3⟩:=iO g (cv.drop i) (0+(i+1)) W.drew c 3 (0,0) hh
     obtain⟨q1,q2,q3⟩:=iO g [x] (0+i) _ _ 3 (0,0) a1
     rw[←hw]at q1 q2 q3
     refine inPlace _ W' hroom q1 (by simp[mQ]) ?_ (fun k hk=>by rw[q2 k hk,a2 k hk];rfl) ?_ ?_
     ·have:=(IM cv [x] c.toList i rfl (by omega) (by have:c.toList.length=c.size:=rfl;omega) (fun j hj=>by rw[←htk,List.getElem?_take,if_pos (by omega)])).2
      rw[Kr]at this
      simpa using this
     ·rw[hw,X5,X5];exact Nat.le_refl _
     ·exact xC.trans (xC.trans (b:=W.drew) ⟨rfl,rfl,rfl⟩ a3) q3
   ·have hie:i=n:=by omega
    subst hie
    refine(Any2.slices_Insert_int_end_room uT g 0 i cap vb 0 1 vc [x] W (by decide) hroom (by unfold maxLen at hcm;omega) rfl (fun j hj=>?_) (fun j hj=>?_) hvs h1v).mono fun e W' ⟨he,hw⟩=>?_
    ·rw[cell_of hh,Array.getElem?_eq_getElem (by omega)];rfl
    ·rw[AZ hh];simp
    ·subst he
     obtain⟨q1,q2,q3⟩:=iO g [x] (0+i) W c 3 (0,0) hh
     rw[←hw]at q1 q2 q3
     refine inPlace _ W' hroom q1 (by simp[mQ]) ?_ q2 ?_ q3
     ·have e1:cv.take i=cv:=List.take_of_length_le (by omega)
      have e2:cv.drop i=[]:=List.drop_eq_nil_of_le (by omega)
      rw[e1,e2,List.append_nil,Nat.zero_add]
      show(c.toList.set i x).take (i+1)=_
      rw[List.take_set,List.take_succ_eq_append_getElem (by show i < c.toList.length;have:c.toList.length=c.size:=rfl;omega),List.set_append_right _ _ (by rw[htk];omega),htk]
      rw[show i-cv.length=0 by omega];rfl
     ·rw[hw,X5];exact Nat.le_refl _
  ·have hcap:cap=n:=by omega
   subst hcap
   have YJ:=grownCap_ge W (cap+1) cap (dF.t 3)
   have hGb:=grownCap_le_maxLen W (cap+1) cap (dF.t 3) hB
   by_cases hin:i < cap
   ·refine(Any2.slices_Insert_int_grow uT g 0 cap cap i vb 0 1 vc cv [x] W hin (by decide) (Nat.le_refl _) (by omega) (by omega) Kr rfl hcs hvs h1c h1v).mono fun e W' ⟨he,hw⟩=>?_
    subst he
    obtain⟨GC,hGC⟩:∃ GC,GC=grownCap W (cap+1) cap (dF.t 3):=⟨_,rfl⟩
    rw[←hGC]at hw YJ hGb⊢
    obtain⟨ROW,hROW⟩:∃ ROW:Array Value,ROW=(cv.take i).toArray++Builtin.zeroCells (Value.int .i64 0).cells (cap+1-i)++Builtin.zeroCells (Value.int .i64 0).cells (GC-(cap+1)):=⟨_,rfl⟩
    rw[←hROW]at hw
    have hRs:ROW.size=GC:=by
     rw[hROW]
     have e2:((cv.take i).toArray).size=i:=by show(cv.take i).length=i;rw[List.length_take];omega
     rw[Array.size_append,Array.size_append,xI,xI,e2]
     omega
    have h0:(W.alloc (.cells ROW (dF.t 3))).drew.heap[W.heap.size]? =some (.cells ROW (dF.t 3)):=alloc_at W _
    obtain⟨a1,a2,a3⟩:=iO W.heap.size [x] i _ _ _ _ h0
    obtain⟨q1,q2,q3⟩:=iO W.heap.size (cv.drop i) (i+1) (((W.alloc (.cells ROW (dF.t 3))).drew.setCells W.heap.size i [x]).drew) _ _ _ a1
    rw[←hw]at q1 q2 q3
    refine Gl _ GC W' q1 (fun k hk=>?_) ?_ (by simp[mQ,hRs]) YJ hGb ?_
    ·rw[q2 k (by omega)]
     show((W.alloc (.cells ROW (dF.t 3))).drew.setCells W.heap.size i [x]).heap[k]? =_
     rw[a2 k (by omega)]
     exact uz W _ k hk
    ·have:=(IM cv [x] ROW.toList i rfl (by omega) (by have:ROW.toList.length=ROW.size:=rfl;omega) (fun j hj=>by
      have e1:(cv.take i).length=i:=by rw[List.length_take];omega
      have e2:((cv.take i).toArray.toList).length=i:=e1
      rw[hROW,Array.toList_append,Array.toList_append,List.getElem?_append_left (by rw[List.length_append,e2];omega),List.getElem?_append_left (by rw[e2];omega)]
      show(cv.take i)[j]? =_
      rw[List.getElem?_take,if_pos hj])).1
     rw[Kr]at this
     exact this
    ·exact xC.trans (xC.trans (xC.trans (b:=(W.alloc (.cells ROW (dF.t 3))).drew) ⟨rfl,rfl,rfl⟩ a3) (c:=((W.alloc (.cells ROW (dF.t 3))).drew.setCells W.heap.size i [x]).drew) ⟨rfl,rfl,rfl⟩) q3
   ·have hie:i=cap:=by omega
    subst hie
    refine(Any2.slices_Insert_int_end_grow uT (some ⟨g,0,none⟩) i i vb 0 1 vc cv [x] W (by decide) (Nat.le_refl _) (by omega) (by omega) Kr rfl (fun h=>by cases h) (fun a h=>?_) hvs h1v).mono fun e W' ⟨he,hw⟩=>?_
    ·cases h
     intro j v hj
     rw[addr_add]
     exact hcs j v hj
    ·subst he
     refine Gl ((cv++[x]).toArray++Builtin.zeroCells (Value.int .i64 0).cells (grownCap W (i+1) i (dF.t 3)-(i+1))).toList _ W' (by rw[hw];exact alloc_at W _) (fun k hk=>by rw[hw];exact uz W _ k hk) ?_ ?_ YJ hGb (by rw[hw];exact⟨rfl,rfl,rfl⟩)
     ·rw[Iz,List.take_append_of_le_length (by rw[List.length_append,List.length_singleton];omega),List.take_of_length_le (by rw[List.length_append,List.length_singleton];omega)]
      have e1:cv.take i=cv:=List.take_of_length_le (by omega)
      have e2:cv.drop i=[]:=List.drop_eq_nil_of_le (by omega)
      rw[e1,e2]
      simp
     ·have e1:∀ A:Array Value,A.toList.length=A.size:=fun _=>rfl
      have e2:((cv++[x]).toArray).size=i+1:=by show(cv++[x]).length=i+1;rw[List.length_append,List.length_singleton];omega
      rw[e1,Array.size_append,xI,e2]
      omega
end Go.Proofs.YtcddlnmcjmhbcaaDoor.In
namespace Go.Proofs.YtcddlnmcjmhbcaaDoor
set_option linter.unusedVariables false
set_option linter.unusedSimpArgs false
open Go Go.RowKit
def mg (w:World) (l:List Nat) (v:Value):Prop:=∃ a cap,v=.slice a l.length cap∧(l≠[]→∃ b o,a=some ⟨b,o,none⟩∧∀ k (h:k < l.length),w.cell? ⟨b,o+k,none⟩=some (.int .i64 (l[k]:Int)))
theorem mg.below {w w':World} (hb:Below w.heap.size w w') {l:List Nat} {v:Value} (h:mg w l v):mg w' l v:=by
 obtain⟨a,cap,h1,h2⟩:=h
 refine⟨a,cap,h1,fun hn=>?_⟩
 obtain⟨b,o,h3,h4⟩:=h2 hn
 exact⟨b,o,h3,fun k hk=>later hb (h4 k hk)⟩
theorem JC {l:List Nat} {i:Nat} (h:gQ l):i∈l↔∃ hp:fE l i < l.length,l[fE l i]=i:=by
 obtain⟨h1,h2⟩:=ry (i:=i) h
 constructor
 ·intro hm
  obtain⟨k,hk,e⟩:=List.mem_iff_getElem.1 hm
  have hpk:fE l i≤k:=by
   rcases Nat.lt_or_ge k (fE l i)with h' | h'
   ·have:=h1 k hk h';omega
   ·exact h'
  have hp:fE l i < l.length:=by omega
  refine⟨hp,?_⟩
  have hge:=h2 _ hp (Nat.le_refl _)
  rcases Nat.lt_or_ge (fE l i) k with h' | h'
  ·have:=List.pairwise_iff_getElem.1 h _ _ hp hk h'
   omega
  ·have hpe:k=fE l i:=by omega
   subst hpe
   exact e
 ·rintro⟨hp,e⟩
  rw[←e]
  exact List.getElem_mem hp
set_option maxRecDepth 100000 in
set_option maxHeartbeats 4000000 in
theorem D8 (a b:Int) (w:World):Calls Tryd.prog 67 #[.int .i64 a,.int .i64 b] w fun e w'=>e=.returned (.bool (decide (a < b)))∧w'=w:=by
 have HN:∀ (x:Int) (w:World),Calls Tryd.prog 89 #[.int .i64 x] w fun e w'=>e=.returned (.bool false)∧w'=w:=by
  intro x w
  go_enter Tryd.func89,Tryd.ntmps89
  go_wp2_with fail
  go_ret
  exact⟨by simp,rfl⟩
 have HN:=hid HN
 go_enter Tryd.func67,Tryd.ntmps67
 go_wp2_with fail
 refine(HN.out a w).mono ?_
 rintro e' w1 ⟨rfl,rfl⟩
 go_wp2_with fail
 go_ret
 exact⟨by simp,rfl⟩
set_option maxRecDepth 100000 in
set_option maxHeartbeats 4000000 in
theorem xh (l:List Nat) (hs:gQ l) (i:Nat) (w:World) (v:Value) (hr:mg w l v) (hl:l.length≤1000000000):
  Calls Tryd.prog 32 #[v,.int .i64 (i:Int)] w fun e w'=>e=.returned (.tuple #[.int .i64 (fE l i:Int),.bool (decide (i∈l))])∧w'=w:=by
 obtain⟨a,cap,rfl,hx⟩:=hr
 have HX:=hid hx;clear hx
 have HN:∀ (x:Int) (w:World),Calls Tryd.prog 68 #[.int .i64 x] w fun e w'=>e=.returned (.bool false)∧w'=w:=by
  intro x w
  go_enter Tryd.func68,Tryd.ntmps68
  go_wp2_with fail
  go_ret
  exact⟨by simp,rfl⟩
 have HN':=hid HN
 clear HN
 have HN:=HN'
 clear HN'
 have HL:=hid hl;clear hl
 have Zd:=hid (ry (i:=i) hs)
 have XI:=hid (JC (i:=i) hs)
 have HPL:=hid (wB l i)
 obtain⟨d,hd⟩:∃ d,d=decide (i∈l):=⟨_,rfl⟩
 rw[←hd]
 have HD:=hid hd
 generalize fE l i=P at Zd XI HPL⊢
 clear hd
 go_enter Tryd.func32,Tryd.ntmps32
 go_wp2_with fail
 go_loopw [7,8] (fun p q wr=>∃ a b:Nat,p=.int .i64 (a:Int)∧q=.int .i64 (b:Int)∧Hid (a≤P∧P≤b∧b≤l.length)∧wr=w) (fun p q _=>(intOf q).toNat-(intOf p).toNat)
 case atStart=>exact⟨0,l.length,rfl,rfl,hid ⟨Nat.zero_le _,HPL.out,Nat.le_refl _⟩,rfl⟩
 case round=>
  obtain⟨p,q,rfl,rfl,HI,rfl⟩:=hrel
  by_cases hlt:p < q
  ·obtain⟨m,hmE⟩:∃ m,m=(p+q) / 2:=⟨_,rfl⟩
   have hm:m < l.length:=by have:=HI.out;omega
   obtain⟨b,o,rfl,hc⟩:=HX.out (by intro h;subst h;simp at hm)
   have c0:=hc _ hm
   have j1:decide ((p:Int) < (q:Int))=true:=by rw[decide_eq_true_iff];omega
   have j2:IntKind.i64.wrap ((p:Int)+(q:Int))=((p+q:Nat):Int):=by have:=HI.out;have:=HL.out;rw[IntWalk.i64_in _ (by omega)];omega
   have hbl:=lt_of_cell c0
   have k1:decide ((m:Int) < (l.length:Int))=true:=by rw[decide_eq_true_iff];omega
   have k2:(0:Int)≤(m:Int):=by omega
   have k3:IntKind.i64.wrap ((m:Int)+1)=((m+1:Nat):Int):=by have:=HL.out;rw[IntWalk.i64_in _ (by omega)];omega
   have j5:wrap64 (IntKind.u64.wrap ((p:Int)+(q:Int)) / 2)=(m:Int):=by
    have h1:=HI.out
    have h2:=HL.out
    have e1:IntKind.u64.wrap ((p:Int)+(q:Int))=(p:Int)+(q:Int):=by simp[IntKind.wrap,IntKind.signed,IntKind.bits];omega
    rw[e1]
    have e2:((p:Int)+(q:Int)) / 2=(m:Int):=by omega
    rw[e2]
    unfold wrap64
    omega
   have HM:=hid hmE
   clear hc hmE
   go_wp2_with fail
   refine(D8 _ _ _).mono ?_
   rintro e' w1 ⟨rfl,rfl⟩
   by_cases hc:l[m] < i
   ·have hc':decide ((l[m]:Int) < (i:Int))=true:=by rw[decide_eq_true_iff];omega
    have HC:=hid hc
    rw[hc']
    clear hc hc'
    go_wp2_with fail
    go_roundw
    case rel=>
     refine⟨m+1,q,by simp,rfl,hid ⟨?_,HI.out.2.1,HI.out.2.2⟩,(by first | trivial | rfl)⟩
     rcases Nat.lt_or_ge m P with h | h
     ·omega
     ·have:=Zd.out.2 m hm h;have:=HC.out;omega
    case measure=>
     have:=HM.out;simp[intOf];omega
   ·have hc':decide ((l[m]:Int) < (i:Int))=false:=by rw[decide_eq_false_iff_not];omega
    have HC:=hid hc
    rw[hc']
    clear hc hc'
    go_wp2_with fail
    go_roundw
    case rel=>
     refine⟨p,m,rfl,rfl,hid ⟨HI.out.1,?_,by have:=HI.out;omega⟩,(by first | trivial | rfl)⟩
     rcases Nat.lt_or_ge m P with h | h
     ·have:=Zd.out.1 m hm h;exact absurd this HC.out
     ·exact h
    case measure=>
     have:=HM.out
     simp[intOf];omega
  ·obtain rfl:p=P:=by have:=HI.out;omega
   have j1:decide ((p:Int) < (q:Int))=false:=by rw[decide_eq_false_iff_not];omega
   by_cases hpl:p < l.length
   ·obtain⟨b,o,rfl,hc⟩:=HX.out (by intro h;subst h;simp at hpl)
    have c0:=hc _ hpl
    have hbl:=lt_of_cell c0
    have k1:decide ((p:Int) < (l.length:Int))=true:=by rw[decide_eq_true_iff];omega
    have k2:(0:Int)≤(p:Int):=by omega
    by_cases he:l[p]=i
    ·have e1:((l[p]:Int)==(i:Int))=true:=by rw[beq_iff_eq];omega
     have hdt:d=true:=by rw[HD.out,decide_eq_true_iff];exact XI.out.2 ⟨hpl,he⟩
     subst hdt
     clear hc he
     go_wp2_with fail
     go_ret2
     exact⟨rfl,rfl⟩
    ·have e1:((l[p]:Int)==(i:Int))=false:=by rw[beq_eq_false_iff_ne];omega
     have hdt:d=false:=by rw[HD.out,decide_eq_false_iff_not];exact fun h=>he (XI.out.1 h).2
     subst hdt
     clear hc he
     go_wp2_with fail
     refine(HN.out _ _).mono ?_
     rintro e' w1 ⟨rfl,rfl⟩
     go_wp2_with fail
     go_ret2
     exact⟨rfl,rfl⟩
   ·have k1:decide ((p:Int) < (l.length:Int))=false:=by rw[decide_eq_false_iff_not];omega
    have hdt:d=false:=by rw[HD.out,decide_eq_false_iff_not];exact fun h=>hpl (XI.out.1 h).1
    subst hdt
    go_wp2_with fail
    go_ret2
    exact⟨rfl,rfl⟩
def BZ (l:List Nat):List Int:=l.map fun i:Nat=>(i:Int)
theorem rG (l:List Nat):(BZ l).length=l.length:=List.length_map ..
theorem JP (l:List Nat) (i:Nat):BZ (l++[i])=BZ l++[(i:Int)]:=by unfold BZ;rw[List.map_append];rfl
def rF (l:List Nat):List Value:=l.map fun i:Nat=>.int .i64 (i:Int)
theorem MJ (l:List Nat):∀ u∈rF l,u.oneCell'=true:=by
 intro u hu
 obtain⟨i,_,rfl⟩:=List.mem_map.1 hu
 rfl
theorem MK (l:List Nat) (i:Nat):(rF l).take (fE l i)++[.int .i64 (i:Int)]++(rF l).drop (fE l i)=rF (qK l i):=by
 unfold rF qK
 rw[List.map_append,List.map_cons,List.map_take,List.map_drop,List.append_assoc]
 rfl
theorem iQ {W:World} {n₀ e:Nat} {v:Value} {l:List Nat} (h:W.ownsRow n₀ e 1 v l.length (rF l)):mg W l v:=by
 have h0:=h
 rcases h.2 with⟨rfl,hn⟩ | ⟨g,cap,cur,rfl,hb,hg,h1,h2,h3,h4⟩
 ·exact⟨none,0,by rw[hn],fun hne=>absurd (List.eq_nil_of_length_eq_zero hn) hne⟩
 ·refine⟨_,cap,rfl,fun _=>⟨g,0,rfl,fun k hk=>?_⟩⟩
  rw[Nat.zero_add,h0.cellAt k (by omega)]
  unfold rF
  rw[List.getElem?_map,List.getElem?_eq_getElem hk];rfl
def Marks (Ds:List Nat) (W:World):Prop:=Ds.Nodup∧∀ D∈Ds,W.heap[D]? =some (.deferred (some []))
theorem Marks.lt {Ds:List Nat} {W:World} (h:Marks Ds W):∀ D∈Ds,D < W.heap.size:=fun D hD=>(Array.getElem?_eq_some_iff.1 (h.2 D hD)).1
def Rf (D:Nat):Deferred:={ target:=.collected D,args:=#[] }
def takeD (Ds:List Nat) (W:World):World:=Ds.foldl (fun W D=>W.putObj D (.deferred none)) W
theorem uS {F:Fence} {n:Nat} {P:Program} {fn:Func} {tmps:Array Value} {R:Ending→World→Prop}:∀ (Ds:List Nat) (W:World),Marks Ds W→LeavesInM F n P fn tmps R [] .returning (takeD Ds W)→LeavesInM F n P fn tmps R (Ds.map Rf) .returning W
 | [],W,_,h=>h
 | D :: Ds,W,hm,h=>by
  have hD:=hm.2 D (List.mem_cons_self ..)
  have hn:=List.nodup_cons.1 hm.1
  refine⟨by simp,.inl ⟨D,_,rfl,run_takeDeferred hD,?_⟩⟩
  refine uS Ds _ ⟨hn.2,fun D' hD'=>?_⟩ h
  have hne:D'≠D:=fun e=>hn.1 (by rw[←e];exact hD')
  rw[World.putObj_heap_other hne]
  exact hm.2 D' (List.mem_cons_of_mem _ hD')
theorem qQ {W:World}:∀ (Ds:List Nat) (W:World) (k:Nat),k∉Ds→(takeD Ds W).heap[k]? =W.heap[k]?
 | [],W,k,_=>rfl
 | D :: Ds,W,k,h=>by
  show(takeD Ds (W.putObj D (.deferred none))).heap[k]? =_
  rw[qQ (W:=W) Ds _ k (fun hm=>h (List.mem_cons_of_mem _ hm)),World.putObj_heap_other (fun e=>h (by rw[e];exact List.mem_cons_self ..))]
theorem Ae:∀ (Ds:List Nat) (W:World),(takeD Ds W).os=W.os∧(takeD Ds W).tape=W.tape∧(takeD Ds W).output=W.output∧(takeD Ds W).heap.size=W.heap.size
 | [],W=>⟨rfl,rfl,rfl,rfl⟩
 | D :: Ds,W=>by
  obtain⟨h1,h2,h3,h4⟩:=Ae Ds (W.putObj D (.deferred none))
  exact⟨h1,h2,h3,h4.trans (by simp[World.putObj])⟩
structure KW (w0:World) (bx:Nat) (vo:Value) (Ds todo out:List Nat) (v:Value) (W:World):Prop where
 box:aA W bx #[v] 32
 todo:iH 3 w0.heap.size W v (BZ todo)
 out:W.ownsRow w0.heap.size 3 1 vo out.length (rF out)
 sep:∀ g,vo.ownBlock=some g→v.ownBlock≠some g
 low:Below w0.heap.size w0 W
 marks:Marks Ds W
 Gm:∀ D∈Ds,w0.heap.size≤D
theorem BQ {W:World} {n₀ e size n:Nat} {v:Value} {xs:List Value} (h:W.ownsRow n₀ e size v n xs) {b:Nat} {o:Obj} (hb:W.heap[b]? =some o) (ho:∀ c,o≠.cells c e (0,0)):v.ownBlock=none∨v.ownBlock≠some b:=by
 rcases h.2 with⟨rfl,_⟩ | ⟨g,cap,cur,rfl,_,hg,_⟩
 ·exact .inl rfl
 ·refine .inr fun e'=>?_
  have:g=b:=by simpa[Value.ownBlock]using e'
  subst this
  rw[hg]at hb
  cases hb
  exact ho _ rfl
theorem kZ {Ds:List Nat} {W W':World} {row:Option Nat} (h:Marks Ds W) (hg:W.grownBy W' row) (hr:∀ D∈Ds,some D≠row):Marks Ds W':=
 ⟨h.1,fun D hD=>by rw[hg.block D (h.lt D hD) (hr D hD)];exact h.2 D hD⟩
theorem KW.grew {w0:World} {bx:Nat} {vo:Value} {Ds todo out:List Nat} {v:Value} {W W':World} (h:KW w0 bx vo Ds todo out v W) {row:Option Nat} (hg:W.grownBy W' row) (h1:some bx≠row) (h2:v.ownBlock=none∨v.ownBlock≠row) (h3:vo.ownBlock=none∨vo.ownBlock≠row) (h4:∀ D∈Ds,some D≠row) (h5:∀ k,row=some k→w0.heap.size≤k):KW w0 bx vo Ds todo out v W':=
 ⟨h.box.grew hg h1,h.todo.kept hg h2,h.out.kept hg h3,h.sep,h.low.grown hg h.low.size h5,kZ h.marks hg h4,h.Gm⟩
theorem KW.still {w0:World} {bx:Nat} {vo:Value} {Ds todo out:List Nat} {v:Value} {W W':World} (h:KW w0 bx vo Ds todo out v W) (hb:Below W.heap.size W W'):KW w0 bx vo Ds todo out v W':=
 h.grew (row:=none) ⟨hb.os,hb.tape,hb.output,hb.size,fun k hk _=>hb.block k hk⟩ (by simp) (by cases v.ownBlock <;> simp) (by cases vo.ownBlock <;> simp) (by simp) (fun k e=>by cases e)
theorem KW.mJ {w0:World} {bx:Nat} {vo:Value} {Ds todo out:List Nat} {v:Value} {W W':World} (h:KW w0 bx vo Ds todo out v W) {row:Option Nat} (hg:W.grownBy W' row) {B:Nat} (hB:w0.heap.size≤B) (hD:∀ D∈Ds,D < B) (hr:∀ r,row=some r→B≤r∧∃ o:Obj,W.heap[r]? =some o∧o.isCells=false):KW w0 bx vo Ds todo out v W':=
 ⟨h.box.mJ hg (fun r e=>(hr r e).2),h.todo.mJ hg (fun r e=>(hr r e).2),
  h.out.kept hg (by
   rcases hrow:row with _ | r
   ·cases vo.ownBlock <;> simp
   ·obtain⟨_,o,ho,hc⟩:=hr r hrow
    exact BQ h.out ho (fun c e=>by rw[e]at hc;cases hc)),
  h.sep,h.low.grown hg h.low.size (fun k e=>Nat.le_trans hB (hr k e).1),kZ h.marks hg (fun D hm e=>by have:=(hr D e.symm).1;have:=hD D hm;omega),h.Gm⟩
theorem KW.stored {w0:World} {bx:Nat} {vo:Value} {Ds todo out:List Nat} {v v':Value} {todo':List Nat} {W:World} (h:KW w0 bx vo Ds todo out v W) (hq:iH 3 w0.heap.size W v' (BZ todo')) (hs:∀ g,vo.ownBlock=some g→v'.ownBlock≠some g) (hbx:w0.heap.size≤bx):KW w0 bx vo Ds todo' out v' (W.setCell ⟨bx,0,none⟩ v'):=by
 have hg:W.grownBy (W.setCell ⟨bx,0,none⟩ v') (some bx):=⟨rfl,rfl,rfl,by simp[World.setCell],fun k _ hk=>Below.heap_setCell _ _ _ k (fun e=>hk (by rw[e]))⟩
 refine⟨by simpa using h.box.set 0 v',hq.other h.box (by decide) v',h.out.kept hg ?_,hs,h.low.grown hg h.low.size (fun k e=>by cases e;exact hbx),kZ h.marks hg (fun D hm e=>?_),h.Gm⟩
 ·have hb:=h.box
  unfold aA at hb
  exact BQ h.out hb (fun c e=>by injection e with _ e _;exact absurd e (by decide))
 ·cases e
  have hb:=h.box
  unfold aA at hb
  rw[h.marks.2 bx hm]at hb
  cases hb
theorem KW.pushed {w0:World} {bx:Nat} {vo:Value} {Ds todo out:List Nat} {v v':Value} {i:Nat} {W W1:World} (h:KW w0 bx vo Ds todo out v W) (hq:iH 3 w0.heap.size W1 v' (BZ todo++[(i:Int)])) (hg:W.grownBy W1 v.ownBlock) (ho:v'.ownBlock=v.ownBlock∨∃ q,v'.ownBlock=some q∧W.heap.size≤q) (hbx:w0.heap.size≤bx):
  KW w0 bx vo Ds (todo++[i]) out v' (W1.setCell ⟨bx,0,none⟩ v')∧aA W1 bx #[v] 32:=by
 have VC:=h.todo.lt
 have hsep:∀ g,vo.ownBlock=some g→v.ownBlock≠some g:=h.sep
 have hout:W1.ownsRow w0.heap.size 3 1 vo out.length (rF out):=h.out.kept hg (by
  rcases hv:vo.ownBlock with _ | g
  ·exact .inl rfl
  ·exact .inr (fun e=>hsep g hv e.symm))
 have hbox:aA W1 bx #[v] 32:=h.box.grew hg (h.todo.ne h.box (by decide))
 have hmk:∀ D∈Ds,some D≠v.ownBlock:=by
  intro D hD e
  obtain⟨_,_,cur,hc⟩:=VC D e.symm
  rw[h.marks.2 D hD]at hc;cases hc
 have hlow:Below w0.heap.size w0 W1:=h.low.grown hg h.low.size (fun k e=>(VC k e).1)
 have hs':∀ g,vo.ownBlock=some g→v'.ownBlock≠some g:=by
  intro g hgv e
  rcases ho with ho | ⟨q,ho,hq'⟩
  ·exact hsep g hgv (ho ▸ e)
  ·have:q=g:=by rw[ho]at e;cases e;rfl
   subst this
   have:=(h.out.lt q hgv).2
   omega
 have h':KW w0 bx vo Ds todo out v W1∨True:=.inr trivial
 have hgs:W1.grownBy (W1.setCell ⟨bx,0,none⟩ v') (some bx):=⟨rfl,rfl,rfl,by simp[World.setCell],fun k _ hk=>Below.heap_setCell _ _ _ k (fun e=>hk (by rw[e]))⟩
 have hm1:=kZ h.marks hg hmk
 refine⟨⟨by simpa using hbox.set 0 v',by rw[JP];exact hq.other hbox (by decide) v',hout.kept hgs ?_,hs',hlow.grown hgs hlow.size (fun k e=>by cases e;exact hbx),kZ hm1 hgs (fun D hm e=>?_),h.Gm⟩,hbox⟩
 ·have hb:=hbox
  unfold aA at hb
  exact BQ hout hb (fun c e=>by injection e with _ e _;exact absurd e (by decide))
 ·cases e
  have hb:=hbox
  unfold aA at hb
  rw[hm1.2 bx hm]at hb
  cases hb
theorem KW.Na {w0:World} {bx:Nat} {vo E8:Value} {Ds todo out out':List Nat} {v:Value} {W W1:World} (h:KW w0 bx vo Ds todo out v W) (ho:W1.ownsRow w0.heap.size 3 1 E8 out'.length (rF out')) (hg:W.grownBy W1 vo.ownBlock) (hw:E8.ownBlock=vo.ownBlock∨∃ q,E8.ownBlock=some q∧W.heap.size≤q):KW w0 bx E8 Ds todo out' v W1:=by
 have h2:v.ownBlock=none∨v.ownBlock≠vo.ownBlock:=by
  rcases hv:v.ownBlock with _ | g
  ·exact .inl rfl
  ·exact .inr (fun e=>h.sep g e.symm hv)
 refine⟨h.box.grew hg (fun e=>?_),h.todo.kept hg h2,ho,fun g hgv e=>?_,h.low.grown hg h.low.size (fun k e=>(h.out.lt k e).1),kZ h.marks hg (fun D hm e=>?_),h.Gm⟩
 ·rcases h.out.2 with⟨rfl,_⟩ | ⟨g,cap,cur,rfl,_,hgb,_⟩
  ·cases e
  ·have hb:=h.box
   unfold aA at hb
   have:bx=g:=by simpa[Value.ownBlock]using e
   subst this
   rw[hb]at hgb
   injection hgb with hgb
   injection hgb with _ e2 _
   exact absurd e2 (by decide)
 ·rcases hw with hw | ⟨q,hw,hq⟩
  ·exact h.sep g (hw ▸ hgv) e
  ·have:q=g:=by rw[hw]at hgv;cases hgv;rfl
   subst this
   have:=(h.todo.lt q e).2.1
   omega
 ·rcases h.out.2 with⟨rfl,_⟩ | ⟨g,cap,cur,rfl,_,hgb,_⟩
  ·cases e
  ·have:D=g:=by simpa[Value.ownBlock]using e
   subst this
   rw[h.marks.2 D hm]at hgb;cases hgb
theorem KW.marked {w0:World} {bx:Nat} {vo:Value} {Ds todo out:List Nat} {v:Value} {W:World} (h:KW w0 bx vo Ds todo out v W) {D B:Nat} (hB:w0.heap.size≤B) (hD:B≤D) (hlt:∀ D'∈Ds,D' < B) (hd:W.heap[D]? =some (.deferred (some []))):KW w0 bx vo (D :: Ds) todo out v W:=
 ⟨h.box,h.todo,h.out,h.sep,h.low,⟨List.nodup_cons.2 ⟨fun hm=>by have:=hlt D hm;omega,h.marks.1⟩,fun D' hD'=>by
  rcases List.mem_cons.1 hD' with rfl | hm
  ·exact hd
  ·exact h.marks.2 D' hm⟩,fun D' hD'=>by
  rcases List.mem_cons.1 hD' with rfl | hm
  ·omega
  ·exact h.Gm D' hm⟩
theorem KW.ended {w0:World} {bx:Nat} {vo:Value} {Ds todo out:List Nat} {v:Value} {W:World} (h:KW w0 bx vo Ds todo out v W):(takeD Ds W).ownsRow w0.heap.size 3 1 vo out.length (rF out)∧Below w0.heap.size w0 (takeD Ds W):=by
 obtain⟨e1,e2,e3,e4⟩:=Ae Ds W
 constructor
 ·refine⟨h.out.1,?_⟩
  rcases h.out.2 with hn | ⟨g,cap,cur,rfl,hb,hg,rest⟩
  ·exact .inl hn
  ·refine .inr ⟨g,cap,cur,rfl,hb,?_,rest⟩
   rw[qQ (W:=W) Ds W g (fun hm=>by rw[h.marks.2 g hm]at hg;cases hg)]
   exact hg
 ·exact⟨e1.trans h.low.os,e2.trans h.low.tape,e3.trans h.low.output,by rw[e4];exact h.low.size,fun k hk=>by
   rw[qQ (W:=W) Ds W k (fun hm=>by have:=h.Gm k hm;omega)]
   exact h.low.block k hk⟩
attribute [local go_sem] Oper.semAt_some
def lenV:Value→Nat
 | .slice _ n _=>n
 | _=>0
def J3:Option Value→Nat
 | some v=>lenV v
 | none=>0
def Ff (w:World) (l:List Int) (v:Value):Prop:=∃ a cap,v=.slice a l.length cap∧l.length≤9223372036854775807∧(∀ y∈l,tu y)∧(l≠[]→∃ b o,a=some ⟨b,o,none⟩∧∀ k (h:k < l.length),w.cell? ⟨b,o+k,none⟩=some (.int .i64 l[k]))∧(a=none→cap=0)
theorem Ff.below {w w':World} (hb:Below w.heap.size w w') {l:List Int} {v:Value} (h:Ff w l v):Ff w' l v:=by
 obtain⟨a,cap,h1,h2,h3,h4,h0⟩:=h
 refine⟨a,cap,h1,h2,h3,fun hn=>?_,h0⟩
 obtain⟨b,o,h5,h6⟩:=h4 hn
 exact⟨b,o,h5,fun k hk=>later hb (h6 k hk)⟩
def vf (L:List aH) (v:Int):Option Nat:=if 0≤dB L v (qP L)then some (dB L v (qP L)).toNat else none
theorem DJ (L:List aH) (vars:List Int) (k:Nat) (h:k < vars.length):lX L (vars.take (k+1))=lX L (vars.take k)++(vf L vars[k]).toList:=by
 unfold lX
 rw[List.take_succ_eq_append_getElem h,List.filterMap_append]
 simp only[List.filterMap_cons,List.filterMap_nil]
 by_cases h0:0≤dB L vars[k] (qP L) <;> simp[vf,h0]
def OQ (L:List aH) (i:Nat):Bool:=nI (L.getD i aH.zero)
theorem DK (L:List aH) (k:Nat):(List.range (k+1)).filter (OQ L)=(List.range k).filter (OQ L)++(if OQ L k=true then[k]else[]):=by
 rw[List.range_succ,List.filter_append]
 simp only[List.filter_cons,List.filter_nil]
theorem uf {e n₀:Nat} {W:World} {v:Value} {xs:List Int} (h:iH e n₀ W v xs):∃ a n c,v=.slice a n c:=by
 obtain⟨a,c,h⟩:=h.shape
 exact⟨a,_,c,h⟩
theorem Rh:(Tryd.prog.info? 3).map (fun i=>(i.zero,i.size,i.bytes))=some (some (.int .i64 0),1,8):=by kernel_rfl
theorem SI (w:World):KW w w.heap.size (.slice none 0 0) [] [] [] (.slice none 0 0) (w.alloc (.cells #[.slice none 0 0] 32)):=
 ⟨aA.new _ _ _,iH.nil _ _ _,World.ownsRow_nil _ _ _ _,fun g h=>by simp[Value.ownBlock]at h,ah (af _) _,⟨List.nodup_nil,fun D h=>by simp at h⟩,fun D h=>by simp at h⟩
theorem qA (w:World) (v:Value) (t:TypeId):(w.alloc (.cells #[v] t)).cell? ⟨w.heap.size,0,none⟩=some v:=(aA.new w #[v] t).cell 0 rfl
theorem F5 (L:List aH) (vars:List Int) (k:Nat):(lX L (vars.take k)).length≤(roots L vars).length:=by
 unfold roots
 rw[List.length_append]
 have:=((List.take_sublist k vars).filterMap (fun v:Int=>if 0≤dB L v (qP L)then some (dB L v (qP L)).toNat else none)).length_le
 show((vars.take k).filterMap _).length≤(vars.filterMap _).length+_
 omega
theorem F6 (L:List aH) (vars:List Int) {k:Nat} (hk:k≤L.length):(lX L vars++(List.range k).filter (OQ L)).length≤(roots L vars).length:=by
 unfold roots
 rw[List.length_append,List.length_append]
 have:=((List.range_sublist.2 hk).filter (OQ L)).length_le
 show _+_≤_+((List.range L.length).filter (OQ L)).length
 omega
theorem KW.meas {w0:World} {bx:Nat} {vo:Value} {Ds todo out:List Nat} {v:Value} {W:World} (h:KW w0 bx vo Ds todo out v W):lenV vo=out.length∧J3 (W.cell? ⟨bx,0,none⟩)=todo.length:=by
 constructor
 ·rcases h.out.2 with⟨rfl,hn⟩ | ⟨g,cap,cur,rfl,_⟩
  ·exact hn.symm
  ·rfl
 ·rw[h.box.cell 0 (v:=v) rfl]
  obtain⟨a,c,rfl⟩:=h.todo.shape
  exact rG _
theorem KW.BL {w0:World} {bx:Nat} {vo:Value} {Ds todo out:List Nat} {v:Value} {W W1:World} (h:KW w0 bx vo Ds todo out v W) {o:Obj} (hg:(W.alloc o).grownBy W1 v.ownBlock) (hbx:w0.heap.size≤bx) (v':Value):
  KeepsOthers W (W1.setCell ⟨bx,0,none⟩ v')∧Below w0.heap.size W (W1.setCell ⟨bx,0,none⟩ v')∧∀ b cs t,t≠3→t≠32→aA W b cs t→aA (W1.setCell ⟨bx,0,none⟩ v') b cs t:=by
 have hv:=(h.todo.alloc o).lt
 have hgs:W1.grownBy (W1.setCell ⟨bx,0,none⟩ v') (some bx):=⟨rfl,rfl,rfl,by simp[World.setCell],fun k _ hk=>Below.heap_setCell _ _ _ k (fun e=>hk (by rw[e]))⟩
 have hle:=h.low.size
 refine⟨((KeepsOthers.alloc _ _).trans (KeepsOthers.of_grownBy hg fun j o' ej hj=>?_)).trans (KeepsOthers.setCell _ _ _),((((Below.refl _ W).alloc hle o).grown hg (by rw[World.size_alloc];omega) (fun k e=>(hv k e).1))).setCell (p:=⟨bx,0,none⟩) hbx v',fun b cs t h1 h2 hb=>?_⟩
 ·obtain⟨_,_,cur,hc⟩:=hv j ej
  rw[hc]at hj;cases hj;rfl
 ·have hb1:=hb.alloc o
  have hb2:=hb1.grew hg ((h.todo.alloc o).ne hb1 h1)
  refine hb2.aC _ _ (fun e=>?_)
  have VT:=(h.box.alloc o).grew hg ((h.todo.alloc o).ne (h.box.alloc o) (by decide))
  unfold aA at VT hb2
  rw[e]at hb2
  rw[VT]at hb2
  injection hb2 with hb2
  injection hb2 with _ e2 _
  exact h2 e2.symm
def Oi (L:List aH) (a:aH) (k:Nat):Nat:=(asked L a).getD k 0
theorem H8 (n:Nat) (hn:1≤n) (B1 B2:Nat) (L:List aH) (sv:Value) (a:aH) (r u:Value) (w0 W4:World) (hL:jq w0 L sv) (ha:fJ w0 a.reads r) (ha':fJ w0 a.writes u) (hb:Below w0.heap.size w0 W4)
  (h1:aA W4 B1 (vg a r u) 58) (h2:aA W4 B2 #[sv] 29):
  CW Fence.wide n Tryd.prog 73 #[.pointer (some ⟨B1,0,none⟩),.pointer (some ⟨B2,0,none⟩)] (fun k=>#[.int .i64 (Oi L a k:Nat)]) (asked L a).length (zK w0.heap.size B1 B2 (vg a r u) #[sv]) W4:=by
 intro l J W hW hab hY h0
 exact Oh n hn l B1 B2 L sv a r u w0 J W hab hL ha ha' (ag hb hW) hY (h1.below hW) (h2.below hW) h0
set_option maxRecDepth 100000 in
set_option maxHeartbeats 8000000 in
theorem Ea (L:List aH) (vars:List Int) (w:World) (vl vv:Value) (hL:jq w L vl) (hV:Ff w vars vv) (hbig:(roots L vars).length+L.length*oq L≤1000000000000) (hlen:L.length≤1000000000):
  Calls Tryd.prog 18 #[vl,vv] w fun e w'=>∃ v,e=.returned v∧w'.ownsRow w.heap.size 3 1 v (kQ L vars).length (rF (kQ L vars))∧Below w.heap.size w w':=by
 obtain⟨x,cap,rfl,hLl,hx⟩:=id hL
 obtain⟨y,aae,rfl,hVl,hVo,hy,-⟩:=id hV
 obtain⟨i0,hi0,hz0,hz1,hz2⟩:=info_parts Rh
 have HX:=hid hx
 have HY:=hid hy
 have HL:=hid hL
 have HV:=hid hV
 have UQ:=hid hbig
 have HN:=hid hlen
 have hn0:w.heap.size≤w.heap.size:=Nat.le_refl _
 clear hx hy hL hV hbig hVo hlen
 refine(callsIn_wide (n:=4)).1 ?_
 refine callsIn_of_wp_marks Tryd.func18 rfl trivial ?_ rfl
 simp only[Tryd.ntmps18,List.size_toArray,List.length_cons,List.length_nil,Nat.reduceAdd,Nat.reduceSub,Array.replicate_succ,Array.replicate_zero,List.push_toArray,List.append_toArray,List.nil_append,List.cons_append]
 gi_wp2_with (refine⟨trivial,?_⟩;gi_at_call 33;refine(callsIn_wide.2 (O7 L _ _ (HL.out.below (ah (af _) (.cells #[.slice none 0 0] 32))))).mono ?_;rintro e' w1 ⟨rfl,hb1⟩)
 have HK0:=hid ((SI w).still hb1)
 clear hb1
 gi_loopw [21] (fun i wr=>∃ (k:Nat) (v:Value),k≤vars.length∧i=.int .i64 (k:Int)∧Hid (KW w w.heap.size (.slice none 0 0) [] (lX L (vars.take k)) [] v wr)) (fun i _=>vars.length-(intOf i).toNat)
 case atStart=>exact⟨0,_,Nat.zero_le _,rfl,HK0⟩
 case round=>
  obtain⟨k,v,hk,rfl,HK⟩:=hrel
  by_cases hlt:k < vars.length
  ·obtain⟨b,o,rfl,hcell⟩:=HY.out (by intro h;rw[h]at hlt;simp at hlt)
   have d0:=later HK.out.low (hcell k hlt)
   have hbl:=lt_of_cell d0
   have c0:=HK.out.box.cell 0 (v:=v) rfl
   have j1:decide ((k:Int) < (vars.length:Int))=true:=by rw[decide_eq_true_iff];omega
   have j2:(0:Int)≤(k:Int):=by omega
   have j3:IntKind.i64.wrap ((k:Int)+1)=(k:Int)+1:=IntWalk.i64_in _ (by omega)
   have j4:decide (k < vars.length)=true:=by rw[decide_eq_true_iff];omega
   have HT:=hid (DJ L vars k hlt)
   have HF:Hid (vf L vars[k]=if 0≤dB L vars[k] (qP L)then some (dB L vars[k] (qP L)).toNat else none):=hid rfl
   have bf:=hid hlt
   have HW:=hid (xU L vars[k] (qP L) wr _ (HL.out.below HK.out.low))
   generalize dB L vars[k] (qP L)=q at HW HF
   generalize vf L vars[k]=vk at HT HF
   clear hcell
   by_cases hq:(0:Int)≤q
   ·obtain⟨m,rfl⟩:∃ m:Nat,q=(m:Int):=⟨q.toNat,by omega⟩
    have hvk:vk=some m:=by rw[HF.out,if_pos hq];simp
    gi_wp2_with (first
     | (refine⟨trivial,?_⟩;gi_at_call 34;refine(callsIn_wide.2 HW.out).mono ?_;rintro e' w2 ⟨rfl,hb2⟩;have tq:=hid (HK.out.still hb2);have c2:=tq.out.box.cell 0 (v:=v) rfl)
     | (gi_at_builtin;refine kC _ rfl _ _ 32 rfl w.heap.size 3 i0 Tryd.underlying32 hi0 hz0 hz1 hz2 v _ rfl (tq.out.todo.alloc _) ⟨w2.heap.size,0,none⟩ 1 (m:Int) rfl (qA _ _ _) (by rw[rG];have:=F5 L vars k;have:=UQ.out;omega) (by rw[World.size_alloc];have:=tq.out.low.size;omega) ?_;intro v' w3 hq3 hg3 ho3;obtain⟨Du,Dq⟩:=(tq.out.still (ah (af _) _)).pushed hq3 hg3 ho3 hn0;obtain⟨sa,sn,sc,rfl⟩:=uf hq3;have c3:=Dq.cell 0 (v:=v) rfl;have f3:=Dq.free 0;have Du:=hid Du;clear hq3 hg3 ho3))
    go_roundw
    case rel=>exact⟨k+1,_,bf.out,by simp,hid (by rw[HT.out,hvk];exact Du.out)⟩
    case measure=>have:=bf.out;simp[intOf];omega
   ·have hvk:vk=none:=by rw[HF.out,if_neg hq]
    have hq':decide ((0:Int)≤q)=false:=decide_eq_false hq
    gi_wp2_with (first
     | (refine⟨trivial,?_⟩;gi_at_call 34;refine(callsIn_wide.2 HW.out).mono ?_;rintro e' w2 ⟨rfl,hb2⟩;have tq:=hid (HK.out.still hb2)))
    go_roundw
    case rel=>exact⟨k+1,_,bf.out,by simp,hid (by rw[HT.out,hvk];simpa using tq.out)⟩
    case measure=>have:=bf.out;simp[intOf];omega
  ·obtain rfl:k=vars.length:=by omega
   have uF:Hid (KW w w.heap.size (.slice none 0 0) [] (lX L vars++(List.range 0).filter (OQ L)) [] v wr):=hid (by have:=HK.out;rw[List.take_length]at this;simpa using this)
   have j1:decide ((vars.length:Int) < (vars.length:Int))=false:=by rw[decide_eq_false_iff_not];omega
   have j4:decide (vars.length < vars.length)=false:=by rw[decide_eq_false_iff_not];omega
   gi_wp2_with fail
   clear HK j1 j4
   gi_loopw [38] (fun i wr=>∃ (k:Nat) (v:Value),k≤L.length∧i=.int .i64 (k:Int)∧Hid (KW w w.heap.size (.slice none 0 0) [] (lX L vars++(List.range k).filter (OQ L)) [] v wr)) (fun i _=>L.length-(intOf i).toNat)
   case atStart=>exact⟨0,_,Nat.zero_le _,rfl,uF⟩
   case round=>
    clear uF
    obtain⟨k,v,hk,rfl,HK⟩:=hrel
    by_cases hlt:k < L.length
    ·obtain⟨b,o,rfl,hcell⟩:=HX.out (by intro h;rw[h]at hlt;simp at hlt)
     obtain⟨r9,u9,hc⟩:=hcell k hlt
     have hc:=hc.below HK.out.low
     obtain⟨a7,k7,VH⟩:=hc.reads.shape
     obtain⟨a8,k8,VG⟩:=hc.writes.shape
     subst VH VG
     have d0:=hc.c0
     have d1:=hc.c1
     have d2:=hc.c2
     have d3:=hc.c3
     have d4:=hc.c4
     have d5:=hc.c5
     have d6:=hc.c6
     have d7:=hc.c7
     have d8:=hc.c8
     have hbl:=lt_of_cell d0
     have j1:decide ((k:Int) < (L.length:Int))=true:=by rw[decide_eq_true_iff];omega
     have j2:(0:Int)≤(k:Int):=by omega
     have j3:IntKind.i64.wrap ((k:Int)+1)=(k:Int)+1:=IntWalk.i64_in _ (by omega)
     have j4:decide (k < L.length)=true:=by rw[decide_eq_true_iff];omega
     have bf:=hid hlt
     have HT:=hid (DK L k)
     have OY:Hid (OQ L k=(decide (0 < L[k].wv)&&decide (L[k].dI=-1))):=hid (by
      show nI (L.getD k aH.zero)=_
      rw[List.getD_eq_getElem?_getD,List.getElem?_eq_getElem hlt];rfl)
     have hlb:=HK.out.box.lt
     have hA:=ah (af wr) (.cells #[.int .i64 L[k].th,.int .i64 L[k].tx,.int .i64 L[k].from_,.int .i64 L[k].dI,.int .i64 L[k].rv,.int .i64 L[k].wv,.bool L[k].com,.slice a7 L[k].reads.length k7,.slice a8 L[k].writes.length k8] 58)
     have tq:=hid (HK.out.still hA)
     have c2:=tq.out.box.cell 0 (v:=v) rfl
     have c3:=HK.out.box.cell 0 (v:=v) rfl
     generalize OQ L k=O8 at HT OY
     generalize L[k].wv=YS at*
     generalize L[k].dI=cto at*
     clear hc hcell hA
     by_cases h1:(0:Int) < YS
     ·by_cases h2:cto=-1
      ·subst h2
       have htk:O8=true:=by rw[OY.out];simp[h1]
       gi_wp2_with (gi_at_builtin;refine kC _ rfl _ _ 32 rfl w.heap.size 3 i0 Tryd.underlying32 hi0 hz0 hz1 hz2 v _ rfl (tq.out.todo.alloc _) ⟨wr.heap.size+1,0,none⟩ 1 (k:Int) rfl (by have:=qA (wr.alloc (.cells #[.int .i64 L[k].th,.int .i64 L[k].tx,.int .i64 L[k].from_,.int .i64 (-1),.int .i64 L[k].rv,.int .i64 YS,.bool L[k].com,.slice a7 L[k].reads.length k7,.slice a8 L[k].writes.length k8] 58)) (.int .i64 (k:Int)) 3;rwa [World.size_alloc]at this) (by rw[rG];have:=F6 L vars (Nat.le_of_lt bf.out);have:=UQ.out;omega) (by rw[World.size_alloc];have:=tq.out.low.size;omega) ?_;intro v' w3 hq3 hg3 ho3;obtain⟨Du,Dq⟩:=(tq.out.still (ah (af _) _)).pushed hq3 hg3 ho3 hn0;obtain⟨sa,sn,sc,rfl⟩:=uf hq3;have c3:=Dq.cell 0 (v:=v) rfl;have f3:=Dq.free 0;have Du:=hid Du;clear hq3 hg3 ho3)
       go_roundw
       case rel=>exact⟨k+1,_,bf.out,by simp,hid (by rw[HT.out,htk,if_pos rfl,←List.append_assoc];exact Du.out)⟩
       case measure=>have:=bf.out;simp[intOf];omega
      ·have htk:O8=false:=by rw[OY.out];simp[h2]
       have g2:(cto== -1)=false:=beq_eq_false_iff_ne.2 h2
       gi_wp2_with fail
       go_roundw
       case rel=>exact⟨k+1,_,bf.out,by simp,hid (by rw[HT.out,htk,if_neg (by decide),List.append_nil];exact tq.out)⟩
       case measure=>have:=bf.out;simp[intOf];omega
     ·have htk:O8=false:=by rw[OY.out];simp[h1]
      have g1:decide ((0:Int) < YS)=false:=decide_eq_false h1
      gi_wp2_with fail
      go_roundw
      case rel=>exact⟨k+1,_,bf.out,by simp,hid (by rw[HT.out,htk,if_neg (by decide),List.append_nil];exact tq.out)⟩
      case measure=>have:=bf.out;simp[intOf];omega
    ·obtain rfl:k=L.length:=by omega
     have uF:Hid (KW w w.heap.size (.slice none 0 0) [] (roots L vars) [] v wr):=hid HK.out
     have j1:decide ((L.length:Int) < (L.length:Int))=false:=by rw[decide_eq_false_iff_not];omega
     have j4:decide (L.length < L.length)=false:=by rw[decide_eq_false_iff_not];omega
     gi_wp2_with fail
     clear j1 j4 HK
     refine wpIn_loop (fun(a':Act) (w':World)=>∃ (u0 u1 u2 u3 u4 u5 u6 u7 u8 u9 u10 u11 u12 u13 u14 u15 u16 u17 u18 u19 u20 u21 u22 u23 u24 u25 u26 u27 u28 u29 u30 u31 u32 u33 u34 u35 u36 u37 u38 u39 u40 u41 u42 u43 u44 u45 u46 u47 u48 u49 u50 u51 u52 u53 u54 u55 u56 u57 u58 u59 u60 u61 u62 u63 u64 u65 u66 u67 u68 u69 u70 u71 u72 u73 u74 u75 u76 u77 u78 u79 u80 u81 u82 u83 u84 u85 u86 u87:Value) (ds:List Deferred),(u0=.slice x L.length cap∧u5=.pointer (some ⟨w.heap.size,0,none⟩)∧∃ (Ds todo out:List Nat) (v:Value),ds=Ds.map Rf∧Hid (KW w w.heap.size u12 Ds todo out v w')∧Hid (lT L (·∈roots L vars) todo out∧todo.length≤(roots L vars).length+out.length*oq L))∧a'={ tmps:=#[u0,u1,u2,u3,u4,u5,u6,u7,u8,u9,u10,u11,u12,u13,u14,u15,u16,u17,u18,u19,u20,u21,u22,u23,u24,u25,u26,u27,u28,u29,u30,u31,u32,u33,u34,u35,u36,u37,u38,u39,u40,u41,u42,u43,u44,u45,u46,u47,u48,u49,u50,u51,u52,u53,u54,u55,u56,u57,u58,u59,u60,u61,u62,u63,u64,u65,u66,u67,u68,u69,u70,u71,u72,u73,u74,u75,u76,u77,u78,u79,u80,u81,u82,u83,u84,u85,u86,u87],defers:=ds }) (fun(a':Act) (w':World)=>(L.length-lenV (a'.tmps.getD 12 undef))*(oq L+1)+J3 (w'.cell? ⟨w.heap.size,0,none⟩)) ?_ ?_
     ·(repeat apply Exists.intro)
      exact⟨⟨rfl,rfl,[],roots L vars,[],v,rfl,uF,hid ⟨lT.start L vars,by simp⟩⟩,rfl⟩
     intro a' wr2 hinv
     clear uF
     obtain⟨u0,hinv⟩:=hinv
     obtain⟨u1,hinv⟩:=hinv
     obtain⟨u2,hinv⟩:=hinv
     obtain⟨u3,hinv⟩:=hinv
     obtain⟨u4,hinv⟩:=hinv
     obtain⟨u5,hinv⟩:=hinv
     obtain⟨u6,hinv⟩:=hinv
     obtain⟨u7,hinv⟩:=hinv
     obtain⟨u8,hinv⟩:=hinv
     obtain⟨u9,hinv⟩:=hinv
     obtain⟨u10,hinv⟩:=hinv
     obtain⟨u11,hinv⟩:=hinv
     obtain⟨u12,hinv⟩:=hinv
     obtain⟨u13,hinv⟩:=hinv
     obtain⟨u14,hinv⟩:=hinv
     obtain⟨u15,hinv⟩:=hinv
     obtain⟨u16,hinv⟩:=hinv
     obtain⟨u17,hinv⟩:=hinv
     obtain⟨u18,hinv⟩:=hinv
     obtain⟨u19,hinv⟩:=hinv
     obtain⟨u20,hinv⟩:=hinv
     obtain⟨u21,hinv⟩:=hinv
     obtain⟨u22,hinv⟩:=hinv
     obtain⟨u23,hinv⟩:=hinv
     obtain⟨u24,hinv⟩:=hinv
     obtain⟨u25,hinv⟩:=hinv
     obtain⟨u26,hinv⟩:=hinv
     obtain⟨u27,hinv⟩:=hinv
     obtain⟨u28,hinv⟩:=hinv
     obtain⟨u29,hinv⟩:=hinv
     obtain⟨u30,hinv⟩:=hinv
     obtain⟨u31,hinv⟩:=hinv
     obtain⟨u32,hinv⟩:=hinv
     obtain⟨u33,hinv⟩:=hinv
     obtain⟨u34,hinv⟩:=hinv
     obtain⟨u35,hinv⟩:=hinv
     obtain⟨u36,hinv⟩:=hinv
     obtain⟨u37,hinv⟩:=hinv
     obtain⟨u38,hinv⟩:=hinv
     obtain⟨u39,hinv⟩:=hinv
     obtain⟨u40,hinv⟩:=hinv
     obtain⟨u41,hinv⟩:=hinv
     obtain⟨u42,hinv⟩:=hinv
     obtain⟨u43,hinv⟩:=hinv
     obtain⟨u44,hinv⟩:=hinv
     obtain⟨u45,hinv⟩:=hinv
     obtain⟨u46,hinv⟩:=hinv
     obtain⟨u47,hinv⟩:=hinv
     obtain⟨u48,hinv⟩:=hinv
     obtain⟨u49,hinv⟩:=hinv
     obtain⟨u50,hinv⟩:=hinv
     obtain⟨u51,hinv⟩:=hinv
     obtain⟨u52,hinv⟩:=hinv
     obtain⟨u53,hinv⟩:=hinv
     obtain⟨u54,hinv⟩:=hinv
     obtain⟨u55,hinv⟩:=hinv
     obtain⟨u56,hinv⟩:=hinv
     obtain⟨u57,hinv⟩:=hinv
     obtain⟨u58,hinv⟩:=hinv
     obtain⟨u59,hinv⟩:=hinv
     obtain⟨u60,hinv⟩:=hinv
     obtain⟨u61,hinv⟩:=hinv
     obtain⟨u62,hinv⟩:=hinv
     obtain⟨u63,hinv⟩:=hinv
     obtain⟨u64,hinv⟩:=hinv
     obtain⟨u65,hinv⟩:=hinv
     obtain⟨u66,hinv⟩:=hinv
     obtain⟨u67,hinv⟩:=hinv
     obtain⟨u68,hinv⟩:=hinv
     obtain⟨u69,hinv⟩:=hinv
     obtain⟨u70,hinv⟩:=hinv
     obtain⟨u71,hinv⟩:=hinv
     obtain⟨u72,hinv⟩:=hinv
     obtain⟨u73,hinv⟩:=hinv
     obtain⟨u74,hinv⟩:=hinv
     obtain⟨u75,hinv⟩:=hinv
     obtain⟨u76,hinv⟩:=hinv
     obtain⟨u77,hinv⟩:=hinv
     obtain⟨u78,hinv⟩:=hinv
     obtain⟨u79,hinv⟩:=hinv
     obtain⟨u80,hinv⟩:=hinv
     obtain⟨u81,hinv⟩:=hinv
     obtain⟨u82,hinv⟩:=hinv
     obtain⟨u83,hinv⟩:=hinv
     obtain⟨u84,hinv⟩:=hinv
     obtain⟨u85,hinv⟩:=hinv
     obtain⟨u86,hinv⟩:=hinv
     obtain⟨u87,hinv⟩:=hinv
     obtain⟨ds,hinv⟩:=hinv
     obtain⟨⟨rfl,rfl,Ds,todo,out,v,rfl,HK,HI⟩,rfl⟩:=hinv
     have c0:=HK.out.box.cell 0 (v:=v) rfl
     rcases todo with _ | ⟨i,todo⟩
     ·have hv:∃ a c,v=.slice a 0 c:=by obtain⟨a,c,h⟩:=HK.out.todo.shape;exact⟨a,c,h⟩
      obtain⟨sa,sc,rfl⟩:=hv
      gi_wp2_with fail
      refine uS Ds wr2 HK.out.marks ?_
      refine⟨u12,by simp[results,Tryd.results18,go_sem],?_⟩
      obtain⟨q1,q2⟩:=HK.out.ended
      rw[Gs HI.out.1]at q1
      exact⟨u12,rfl,q1,q2⟩
     ·obtain⟨g,off,qc,rfl,aaj,VI,hqm,hhead,hrest⟩:=HK.out.todo.head
      have hil:i < L.length:=uK (fun _=>pJ) (HI.out.1.todoR i (List.mem_cons_self ..))
      have hol:out.length≤L.length:=BR (fun _=>pJ) HI.out.1
      have hhl:=lt_of_cell hhead
      have f0:=HK.out.box.free 0
      have hlb:=HK.out.box.lt
      have HS:Hid (∃ z n c,(if qc=1 then some (⟨g,off,none⟩:Addr)else some ⟨g,off+1,none⟩)=z):=hid ⟨_,0,0,rfl⟩
      obtain⟨z,hz⟩:∃ z,z=(if qc=1 then some (⟨g,off,none⟩:Addr)else some ⟨g,off+1,none⟩):=⟨_,rfl⟩
      rw[←hz]at hrest
      have Rj:∀ g',u12.ownBlock=some g'→(Value.slice z (BZ todo).length (qc-1)).ownBlock≠some g':=by
       intro g' hg' e
       refine HK.out.sep g' hg' ?_
       rw[hz]at e
       split at e <;> exact e
      have HR:=hid (HK.out.stored (todo':=todo) hrest Rj (Nat.le_refl _))
      have nl:(BZ todo).length=todo.length:=rG _
      have nl2:(List.map (fun i:Nat=>(i:Int)) todo).length=todo.length:=List.length_map ..
      simp only[nl,nl2]at c0 HR VI
      have p1:decide ((0:Int) < ((todo.length+1:Nat):Int))=true:=by rw[decide_eq_true_iff];omega
      have p2:(1:Int)≤((todo.length+1:Nat):Int):=by omega
      have p3:(todo.length+1)≤qc:=VI
      have p4:(1:Int)≤(qc:Int):=by omega
      clear hrest Rj HS nl nl2
      have HIL:=hid hil
      obtain⟨b,o,rfl,hcell⟩:=HX.out (by intro h;rw[h]at hil;simp at hil)
      obtain⟨r9,u9',hc⟩:=hcell i hil
      have nl3:todo.length+1≤qc:=p3
      have Va:=hid HK.out.meas
      clear HK hhl
      by_cases hq1:qc=1
      case' pos=>
       have hz1:z=some ⟨g,off,none⟩:=by rw[hz,if_pos hq1]
       subst hz1
       subst hq1
       have hl0:todo.length=0:=by omega
       have Ul:Hid (KW w w.heap.size u12 Ds todo out (.slice (some ⟨g,off,none⟩) 0 0) (wr2.setCell ⟨w.heap.size,0,none⟩ (.slice (some ⟨g,off,none⟩) 0 0))):=hid (by have:=HR.out;rw[hl0]at this;exact this)
       clear hz nl3 hl0 HR
       gi_wp2_with fail
       generalize wr2.setCell ⟨w.heap.size,0,none⟩ (.slice (some ⟨g,off,none⟩) 0 0)=W5 at Ul⊢
       generalize (Value.slice (some ⟨g,off,none⟩) 0 0)=V5 at Ul
       have jB:=Ul
      case' neg=>
       have hz1:z=some ⟨g,off+1,none⟩:=by rw[hz,if_neg hq1]
       subst hz1
       have p5:¬ qc-1=0:=by omega
       have p6:¬ ((qc:Int)=1):=by omega
       clear hz nl3
       gi_wp2_with fail
       generalize wr2.setCell ⟨w.heap.size,0,none⟩ (.slice (some ⟨g,off+1,none⟩) todo.length (qc-1))=W5 at HR⊢
       generalize (Value.slice (some ⟨g,off+1,none⟩) todo.length (qc-1))=V5 at HR
       have jB:=HR
      all_goals (
       clear hhead c0 f0 p1 p2 p3 p4
       have vM:=xh out HI.out.1.sorted i W5 u12 (iQ jB.out.out) (by have:=HN.out;omega)
       have HM5:=hid jB.out.meas
       by_cases hm:i∈out
       case' pos=>
        rw[decide_eq_true hm]at vM
        refine⟨trivial,?_⟩
        refine(callsIn_wide.2 vM).mono ?_
        rintro e' w6 ⟨rfl,rfl⟩
        have HM:=hid hm
        clear vM hm
        gi_wp2_with fail
        have hlen:todo.length≤(roots L vars).length+out.length*oq L:=by have:=HI.out.2;rw[List.length_cons]at this;omega
        refine⟨⟨_,_,_,_,_,_,_,_,_,_,_,_,_,_,_,_,_,_,_,_,_,_,_,_,_,_,_,_,_,_,_,_,_,_,_,_,_,_,_,_,_,_,_,_,_,_,_,_,_,_,_,_,_,_,_,_,_,_,_,_,_,_,_,_,_,_,_,_,_,_,_,_,_,_,_,_,_,_,_,_,_,_,_,_,_,_,_,_,_,⟨rfl,rfl,Ds,todo,out,V5,rfl,jB,hid ⟨HI.out.1.skip HM.out,hlen⟩⟩,rfl⟩,?_⟩
        focus
         have e1:=Va.out
         have e2:=HM5.out
         show(L.length-lenV u12)*(oq L+1)+J3 (w6.cell? ⟨w.heap.size,0,none⟩) < (L.length-lenV u12)*(oq L+1)+J3 (wr2.cell? ⟨w.heap.size,0,none⟩)
         rw[e1.2,e2.2,List.length_cons];omega
       case' neg=>
        rw[decide_eq_false hm]at vM
        refine⟨trivial,?_⟩
        refine(callsIn_wide.2 vM).mono ?_
        rintro e' w6 ⟨rfl,rfl⟩
        have HM:=hid hm
        clear vM hm
        gi_wp2_with fail
        refine⟨trivial,?_⟩
        refine(callsIn_wide.2 (In.ins_any w.heap.size u12 out.length (fE out i) w6.heap.size 1 (rF out) (.int .i64 (i:Int)) (w6.alloc (.cells #[.int .i64 (i:Int)] 3)) (jB.out.out.alloc _) (MJ _) rfl (wB _ _) (aA.new _ _ _) (fun e=>by have:=(jB.out.out.lt _ e).2;omega) (by have:=HN.out;omega) (by rw[World.size_alloc];have:=jB.out.low.size;omega))).mono ?_
        rintro e' w7 ⟨E8,rfl,Yq,hg7,hw7⟩
        rw[MK,←uY out i]at Yq
        have Lt:=hid ((jB.out.still (ah (af _) (.cells #[.int .i64 (i:Int)] 3))).Na Yq hg7 hw7)
        have ND:=hc.below Lt.out.low
        obtain⟨a7,k7,VH⟩:=ND.reads.shape
        obtain⟨a8,k8,VG⟩:=ND.writes.shape
        subst VH VG
        have d0:=ND.c0
        have d1:=ND.c1
        have d2:=ND.c2
        have d3:=ND.c3
        have d4:=ND.c4
        have d5:=ND.c5
        have d6:=ND.c6
        have d7:=ND.c7
        have d8:=ND.c8
        have hbl:=lt_of_cell d0
        have q1:decide ((i:Int) < (L.length:Int))=true:=by rw[decide_eq_true_iff];omega
        have q2:(0:Int)≤(i:Int):=by omega
        have q3:decide (i < L.length)=true:=by rw[decide_eq_true_iff];omega
        have XT:=hid (KT (.slice (some ⟨b,o,none⟩) L.length cap) (some ⟨b,o,none⟩) L.length cap L[i] a7 L[i].reads.length k7 a8 L[i].writes.length k8 w7 rfl)
        unfold vg at XT
        clear Yq hg7 hw7
        gi_wp2_with fail
        refine⟨trivial,?_⟩
        refine(callsIn_wide.2 XT.out).mono ?_
        rintro e' w8 ⟨rfl,hw8⟩
        have hB8:Below w7.heap.size w7 w8:=by rw[hw8];exact ah (ah (af _) _) _
        have hs8:w8.heap.size=w7.heap.size+2:=by rw[hw8,World.size_alloc,World.size_alloc]
        have hx2:aA w8 w7.heap.size #[.slice (some ⟨b,o,none⟩) L.length cap] 29:=by rw[hw8];exact(aA.new _ _ _).alloc _
        have hx1:aA w8 (w7.heap.size+1) (vg L[i] (.slice a7 L[i].reads.length k7) (.slice a8 L[i].writes.length k8)) 58:=by rw[hw8];exact aA.new' _ _ _ (by rw[World.size_alloc])
        have XF:=hid (Lt.out.still hB8)
        have Ik:=hid (H8 3 (by omega) (w7.heap.size+1) w7.heap.size L _ L[i] _ _ w w8 HL.out hc.reads hc.writes XF.out.low hx1 hx2)
        have hDlt:∀ D∈Ds,D < w8.heap.size:=XF.out.marks.lt
        have Tv:=XF.out.low.size
        have HGD:Hid (L.getD i aH.zero=L[i]):=hid (by rw[List.getD_eq_getElem?_getD,List.getElem?_eq_getElem hil];rfl)
        have xR:=hid (HI.out.1.take HM.out)
        have Xk:=hid (Jc hil)
        rw[HGD.out]at xR Xk
        have hlo:(qK out i).length≤L.length:=BR (fun _=>pJ) xR.out
        have htl:todo.length+(asked L L[i]).length≤(roots L vars).length+(qK out i).length*oq L:=by
         have h1:=HI.out.2
         have h2:=Xk.out
         rw[List.length_cons]at h1
         rw[uY,Nat.succ_mul]
         omega
        have hbd:(roots L vars).length+(qK out i).length*oq L≤1000000000000:=by
         have:=Nat.mul_le_mul_right (oq L) hlo
         have:=UQ.out
         omega
        have Z5:=hid (And.intro hlo (And.intro htl hbd))
        have HX:=hid (And.intro hx1 hx2)
        have HW8:=hid hw8
        clear hw8 d0 d1 d2 d3 d4 d5 d6 d7 d8 hx1 hx2 htl hbd hlo hB8
        gi_wp2_with fail
        apply lW (encs:=fun k=>#[.int .i64 (Oi L L[i] k:Nat)]) (Kp:=zK w.heap.size (w7.heap.size+1) w7.heap.size (vg L[i] (.slice a7 L[i].reads.length k7) (.slice a8 L[i].writes.length k8)) #[.slice (some ⟨b,o,none⟩) L.length cap]) (N:=(asked L L[i]).length) (w0:=w8) rfl (by omega) (gf:=73) (lb:=#[.pointer (some ⟨w7.heap.size+1,0,none⟩),.pointer (some ⟨w7.heap.size,0,none⟩)]) rfl trivial (enters_of Tryd.func73 (by kernel_rfl) rfl) Ik.out P7 (P8 Tv (by omega) (by omega)) (Below.refl _ _) (fun _=>rfl)
         (fun k W=>∃ v,KW w w.heap.size E8 Ds (todo++(asked L L[i]).take k) (qK out i) v W∧aA W (w7.heap.size+1) (vg L[i] (.slice a7 L[i].reads.length k7) (.slice a8 L[i].writes.length k8)) 58∧aA W w7.heap.size #[.slice (some ⟨b,o,none⟩) L.length cap] 29)
         (fun k A B row h hg hr=>by
          obtain⟨v,h,h1,h2⟩:=h
          exact⟨v,h.mJ hg Tv hDlt hr,h1.mJ hg (fun r e=>(hr r e).2),h2.mJ hg (fun r e=>(hr r e).2)⟩)
         ⟨V5,by simpa using XF.out,HX.out.1,HX.out.2⟩
        case hassign=>
         intro lp k W K hK
         gi_wp2
         exact hK
        case hbody=>
         rintro lp k W ⟨v,hKW,hb1,hb2⟩ hk
         have qJ:=hid hKW
         have c0:=hKW.box.cell 0 (v:=v) rfl
         have hbw:=hKW.box.lt
         have xR:Hid ((asked L L[i]).take (k+1)=(asked L L[i]).take k++[Oi L L[i] k]):=hid (by
          unfold Oi
          rw[List.take_succ_eq_append_getElem hk]
          congr 2
          rw[List.getD_eq_getElem?_getD,List.getElem?_eq_getElem hk];rfl)
         have Xi:=hid (And.intro hb1 hb2)
         generalize Oi L L[i] k=ak at xR⊢
         have HKK:=hid hk
         clear hKW hb1 hb2 hk
         gi_wp2_with (gi_at_builtin;refine kC _ rfl _ _ 32 rfl w.heap.size 3 i0 Tryd.underlying32 hi0 hz0 hz1 hz2 v _ rfl (qJ.out.todo.alloc _) ⟨W.heap.size,0,none⟩ 1 (ak:Int) rfl (qA _ _ _) (by rw[rG,List.length_append,List.length_take];have:=Z5.out;have:=HKK.out;omega) (by rw[World.size_alloc];have:=qJ.out.low.size;omega) ?_;intro v' w3 hq3 hg3 ho3;obtain⟨Du,Dq⟩:=(qJ.out.still (ah (af _) _)).pushed hq3 hg3 ho3 hn0;obtain⟨sa,sn,sc,rfl⟩:=uf hq3;have HPK:=hid (qJ.out.BL hg3 hn0 (.slice sa sn sc));have c3:=Dq.cell 0 (v:=v) rfl;have f3:=Dq.free 0;have Du:=hid Du;clear hq3 hg3 ho3 Dq)
         obtain⟨g1,g2,g3⟩:=HPK.out
         have z1:=g3 (w7.heap.size+1) (vg L[i] (.slice a7 L[i].reads.length k7) (.slice a8 L[i].writes.length k8)) 58 (by decide) (by decide)
         have z2:=g3 w7.heap.size #[.slice (some ⟨b,o,none⟩) L.length cap] 29 (by decide) (by decide)
         exact⟨g1.from _,⟨⟨g2,g1.walks⟩,z1,z2⟩,⟨_,by rw[xR.out,←List.append_assoc];exact Du.out,z1 Xi.out.1,z2 Xi.out.2⟩⟩
        case hdone=>
         rintro D W hD ⟨v,hKW,hb1,hb2⟩ hK
         rw[List.take_length]at hKW
         have qJ:=hid (hKW.marked Tv hD hDlt hK)
         have HM9:=hid qJ.out.meas
         clear hKW hb1 hb2 hK
         gi_wp2_with fail
         refine⟨⟨_,_,_,_,_,_,_,_,_,_,_,_,_,_,_,_,_,_,_,_,_,_,_,_,_,_,_,_,_,_,_,_,_,_,_,_,_,_,_,_,_,_,_,_,_,_,_,_,_,_,_,_,_,_,_,_,_,_,_,_,_,_,_,_,_,_,_,_,_,_,_,_,_,_,_,_,_,_,_,_,_,_,_,_,_,_,_,_,_,⟨rfl,rfl,D :: Ds,todo++asked L L[i],qK out i,v,rfl,qJ,hid ⟨xR.out,by rw[List.length_append];exact Z5.out.2.1⟩⟩,rfl⟩,?_⟩
         have e1:=Va.out
         have e2:=HM9.out
         show(L.length-lenV E8)*(oq L+1)+J3 (W.cell? ⟨w.heap.size,0,none⟩) < (L.length-lenV u12)*(oq L+1)+J3 (wr2.cell? ⟨w.heap.size,0,none⟩)
         rw[e1.1,e1.2,e2.1,e2.2,List.length_cons,List.length_append]
         exact Ad (uY out i) Z5.out.1 Xk.out)
end Go.Proofs.YtcddlnmcjmhbcaaDoor
-- short
