/-
  Joined texts: HtW1 HiB HtW2 HtW3 HtW4 HtJ.
-/
import Derived.Test.YtcddlnmcjmhbcaaDoorProg
import Derived.Test.YtcddlnmcjmhbcaaDoorHtA
import Derived.Test.YtcddlnmcjmhbcaaDoorRgB
import Derived.Test.YtcddlnmcjmhbcaaDoorRgC
import Derived.Deep.CutBlock
import Derived.Deep.QuietTactic
import Derived.BigQuiet
import Derived.Test.YtcddlnmcjmhbcaaDoorRgG
import Derived.Test.YtcddlnmcjmhbcaaDoorRgH
import Derived.Test.YtcddlnmcjmhbcaaDoorRgI
namespace Go.Proofs.YtcddlnmcjmhbcaaDoor
set_option linter.unusedVariables false
set_option linter.unusedSimpArgs false
open Go Go.RowKit
def nine (w:World) (b:Nat) (v0 v1 v2 v3 v4 v5 v6 v7 v8:Value):World:=((((((((w.setCell ⟨b,0,none⟩ v0).setCell ⟨b,1,none⟩ v1).setCell ⟨b,2,none⟩ v2).setCell ⟨b,3,none⟩ v3).setCell ⟨b,4,none⟩ v4).setCell ⟨b,5,none⟩ v5).setCell ⟨b,6,none⟩ v6).setCell ⟨b,7,none⟩ v7).setCell ⟨b,8,none⟩ v8
theorem X6 {w:World} {b:Nat} {c0 c1 c2 c3 c4 c5 c6 c7 c8:Value} {t:TypeId} (h:aA w b #[c0,c1,c2,c3,c4,c5,c6,c7,c8] t) (v0 v1 v2 v3 v4 v5 v6 v7 v8:Value):aA (nine w b v0 v1 v2 v3 v4 v5 v6 v7 v8) b #[v0,v1,v2,v3,v4,v5,v6,v7,v8] t:=by
 have:=((((((((h.set 0 v0).set 1 v1).set 2 v2).set 3 v3).set 4 v4).set 5 v5).set 6 v6).set 7 v7).set 8 v8
 simpa[nine]using this
theorem YM {w:World} {b d:Nat} {cs:Array Value} {t:TypeId} (h:aA w d cs t) (hne:d≠b) (v0 v1 v2 v3 v4 v5 v6 v7 v8:Value):aA (nine w b v0 v1 v2 v3 v4 v5 v6 v7 v8) d cs t:=
 ((((((((h.aC ⟨b,0,none⟩ v0 hne).aC ⟨b,1,none⟩ v1 hne).aC ⟨b,2,none⟩ v2 hne).aC ⟨b,3,none⟩ v3 hne).aC ⟨b,4,none⟩ v4 hne).aC ⟨b,5,none⟩ v5 hne).aC ⟨b,6,none⟩ v6 hne).aC ⟨b,7,none⟩ v7 hne).aC ⟨b,8,none⟩ v8 hne
theorem Yc {a w:World} {B b:Nat} (h:Below B a w) (hb:B≤b) (v0 v1 v2 v3 v4 v5 v6 v7 v8:Value):Below B a (nine w b v0 v1 v2 v3 v4 v5 v6 v7 v8):=
 ((((((((h.setCell (p:=⟨b,0,none⟩) hb v0).setCell (p:=⟨b,1,none⟩) hb v1).setCell (p:=⟨b,2,none⟩) hb v2).setCell (p:=⟨b,3,none⟩) hb v3).setCell (p:=⟨b,4,none⟩) hb v4).setCell (p:=⟨b,5,none⟩) hb v5).setCell (p:=⟨b,6,none⟩) hb v6).setCell (p:=⟨b,7,none⟩) hb v7).setCell (p:=⟨b,8,none⟩) hb v8
theorem Ue {cs:Array Value} (h:cs.size=9):∃ c0 c1 c2 c3 c4 c5 c6 c7 c8,cs=#[c0,c1,c2,c3,c4,c5,c6,c7,c8]:=by
 obtain⟨l⟩:=cs
 match l,h with
 | [a,b,c,d,e,f,g,i,j],_=>exact⟨a,b,c,d,e,f,g,i,j,rfl⟩
structure Bx (W0:World) (n:Nat) (K:Nat→Value) (E:Nat→Array Value) (t:TypeId) (l:Nat→Bool) (v:Nat→Value) (w':World):Prop where
 mid:Below W0.heap.size W0 w'
 rJ:∀ i,i < n→l i=true→v i=K i
 xm:∀ c,c < 2→l (n+c)=true→∃ b cs,v (n+c)=.pointer (some ⟨b,0,none⟩)∧W0.heap.size≤b∧aA w' b cs t∧cs.size=9∧(l (n+2+c)=true→cs=E c)
 aX:∀ c,c < 2→l (n+2+c)=true→l (n+c)=true
 far:∀ c d,c < 2→d < 2→c≠d→l (n+c)=true→l (n+d)=true→v (n+c)≠v (n+d)
theorem Bx.ext {W0:World} {n:Nat} {K:Nat→Value} {E:Nat→Array Value} {t:TypeId} {l l':Nat→Bool} {v:Nat→Value} {w':World} (h:∀ i,i < n+4→l i=l' i) (H:Bx W0 n K E t l v w'):Bx W0 n K E t l' v w' where
 mid:=H.mid
 rJ c hc hl:=H.rJ c hc (by rw[h c (by omega)];exact hl)
 xm c hc hl:=by
  obtain⟨b,cs,h1,h2,h3,h4,h5⟩:=H.xm c hc (by rw[h (n+c) (by omega)];exact hl)
  exact⟨b,cs,h1,h2,h3,h4,fun h6=>h5 (by rw[h (n+2+c) (by omega)];exact h6)⟩
 aX c hc hl:=by rw[←h (n+c) (by omega)];exact H.aX c hc (by rw[h (n+2+c) (by omega)];exact hl)
 far c d hc hd hn h1 h2:=H.far c d hc hd hn (by rw[h (n+c) (by omega)];exact h1) (by rw[h (n+d) (by omega)];exact h2)
theorem Bx.start {W0:World} {n:Nat} {K:Nat→Value} {E:Nat→Array Value} {t:TypeId} {v:Nat→Value} {w':World} (h2:Below W0.heap.size W0 w'):Bx W0 n K E t (fun _=>false) v w' where
 mid:=h2
 rJ c _ h:=by cases h
 xm c _ h:=by cases h
 aX c _ h:=by cases h
 far c d _ _ _ h:=by cases h
theorem Bx.get {W0:World} {n:Nat} {K:Nat→Value} {E:Nat→Array Value} {t:TypeId} {l:Nat→Bool} {v:Nat→Value} {w':World} (i:Nat) (hi:i < n) (H:Bx W0 n K E t l v w'):Bx W0 n K E t (aJ l i) (bQ v i (K i)) w' where
 mid:=H.mid
 rJ c hc hl:=by
  unfold bQ
  unfold aJ at hl
  split
  ·rename_i he;rw[he]
  ·rename_i hne;rw[if_neg hne]at hl;exact H.rJ c hc hl
 xm c hc hl:=by
  unfold bQ
  unfold aJ at hl⊢
  rw[if_neg (by omega)]at hl⊢
  rw[if_neg (by omega)]
  exact H.xm c hc hl
 aX c hc hl:=by
  unfold aJ at hl⊢
  rw[if_neg (by omega)]at hl⊢
  exact H.aX c hc hl
 far c d hc hd hn h1 h2:=by
  unfold bQ
  unfold aJ at h1 h2
  rw[if_neg (by omega)]at h1 h2
  rw[if_neg (by omega),if_neg (by omega)]
  exact H.far c d hc hd hn h1 h2
theorem Bx.alloc {W0:World} {n:Nat} {K:Nat→Value} {E:Nat→Array Value} {Z:Array Value} {t:TypeId} {l:Nat→Bool} {v:Nat→Value} {w':World} (hZ:Z.size=9) (i:Nat) (hi:i < 2) (hl3:l (n+i)=false) (H:Bx W0 n K E t l v w'):
  Bx W0 n K E t (aJ l (n+i)) (bQ v (n+i) (.pointer (some ⟨w'.heap.size,0,none⟩))) (w'.alloc (.cells Z t)):=by
 have h0:W0.heap.size≤w'.heap.size:=H.mid.size
 have h6:l (n+2+i)=false:=by
  cases h:l (n+2+i)with
  | false=>rfl
  | true=>rw[H.aX i hi h]at hl3;cases hl3
 have hne:∀ c,c < 2→c≠i→l (n+c)=true→v (n+c)≠.pointer (some ⟨w'.heap.size,0,none⟩):=by
  intro c hc hci hl hv
  obtain⟨b,cs,h1,h2,h3,h4,h5⟩:=H.xm c hc hl
  have:=h3.lt
  rw[h1]at hv
  injection hv with hv
  injection hv with hv
  injection hv with hv
  omega
 exact{
  mid:=ah H.mid _
  rJ:=fun c hc hl=>by
   unfold bQ
   unfold aJ at hl
   rw[if_neg (by omega)]at hl⊢
   exact H.rJ c hc hl
  xm:=fun c hc hl=>by
   unfold bQ
   by_cases hci:c=i
   ·subst hci
    rw[if_pos rfl]
    refine⟨_,Z,rfl,h0,aA.new _ _ _,hZ,fun h=>?_⟩
    unfold aJ at h
    rw[if_neg (by omega)]at h
    rw[h6]at h;cases h
   ·unfold aJ at hl⊢
    rw[if_neg (by omega)]at hl⊢
    rw[if_neg (by omega)]
    obtain⟨b,cs,h1,h2,h3,h4,h5⟩:=H.xm c hc hl
    exact⟨b,cs,h1,h2,h3.alloc _,h4,h5⟩
  aX:=fun c hc hl=>by
   unfold aJ at hl⊢
   rw[if_neg (by omega)]at hl
   split
   ·rfl
   ·exact H.aX c hc hl
  far:=fun c d hc hd hn h1 h2=>by
   unfold bQ
   unfold aJ at h1 h2
   by_cases hci:c=i
   ·subst hci
    rw[if_neg (by omega)]at h2
    rw[if_pos rfl,if_neg (by omega)]
    exact fun h=>hne d hd (fun e=>hn e.symm) h2 h.symm
   ·rw[if_neg (by omega)]at h1
    rw[if_neg (by omega)]
    by_cases hdi:d=i
    ·subst hdi
     rw[if_pos rfl]
     exact hne c hc hn h1
    ·rw[if_neg (by omega)]at h2⊢
     exact H.far c d hc hd hn h1 h2 }
theorem Bx.store {W0:World} {n:Nat} {K:Nat→Value} {E:Nat→Array Value} {v0 v1 v2 v3 v4 v5 v6 v7 v8 x:Value} {t:TypeId} {l:Nat→Bool} {v:Nat→Value} {w':World} (i b:Nat) (hi:i < 2) (hE:E i=#[v0,v1,v2,v3,v4,v5,v6,v7,v8]) (hl3:l (n+i)=true) (hv:v (n+i)=.pointer (some ⟨b,0,none⟩)) (H:Bx W0 n K E t l v w'):
  Bx W0 n K E t (aJ l (n+2+i)) (bQ v (n+2+i) x) (nine w' b v0 v1 v2 v3 v4 v5 v6 v7 v8):=by
 obtain⟨b',cs,h1,h2,h3,h4,-⟩:=H.xm i hi hl3
 rw[hv]at h1
 injection h1 with h1
 injection h1 with h1
 injection h1 with h1
 subst h1
 exact{
  mid:=Yc H.mid h2 _ _ _ _ _ _ _ _ _
  rJ:=fun c hc hl=>by
   unfold bQ
   unfold aJ at hl
   rw[if_neg (by omega)]at hl⊢
   exact H.rJ c hc hl
  xm:=fun c hc hl=>by
   unfold bQ
   unfold aJ at hl
   rw[if_neg (by omega)]at hl⊢
   by_cases hci:c=i
   ·subst hci
    obtain⟨c0,c1,c2,c3,c4,c5,c6,c7,c8,rfl⟩:=Ue h4
    exact⟨b,_,hv,h2,X6 h3 _ _ _ _ _ _ _ _ _,rfl,fun _=>hE.symm⟩
   ·obtain⟨d,ds,g1,g2,g3,g4,g5⟩:=H.xm c hc hl
    have hdb:d≠b:=by
     rintro rfl
     exact H.far c i hc hi hci hl hl3 (g1.trans hv.symm)
    refine⟨d,ds,g1,g2,YM g3 hdb _ _ _ _ _ _ _ _ _,g4,fun h=>g5 ?_⟩
    unfold aJ at h
    rw[if_neg (by omega)]at h
    exact h
  aX:=fun c hc hl=>by
   unfold aJ at hl⊢
   rw[if_neg (by omega)]
   by_cases hci:c=i
   ·subst hci;exact hl3
   ·rw[if_neg (by omega)]at hl
    exact H.aX c hc hl
  far:=fun c d hc hd hn g1 g2=>by
   unfold bQ
   unfold aJ at g1 g2
   rw[if_neg (by omega)]at g1 g2
   rw[if_neg (by omega),if_neg (by omega)]
   exact H.far c d hc hd hn g1 g2 }
def xB (a:aH) (r u:Value):Array Value:=#[.int .i64 a.th,.int .i64 a.tx,.int .i64 a.from_,.int .i64 a.dI,.int .i64 a.rv,.int .i64 a.wv,.bool a.com,r,u]
theorem XA {w:World} {a:Option Addr} {l:List Ev} (h:cO w a l) (hn:l≠[]):∃ b o,a=some ⟨b,o,none⟩∧∀ w',Below w.heap.size w w'→∀ k (hk:k < l.length),w'.cell? ⟨b,o+k*7,none⟩=some (.int .u8 l[k].kind)∧w'.cell? ⟨b,o+k*7+1,none⟩=some (.int .i64 l[k].th)∧w'.cell? ⟨b,o+k*7+2,none⟩=some (.int .i64 l[k].tx)∧w'.cell? ⟨b,o+k*7+3,none⟩=some (.int .i64 l[k].at_)∧w'.cell? ⟨b,o+k*7+4,none⟩=some (.int .i64 l[k].v)∧w'.cell? ⟨b,o+k*7+5,none⟩=some (.int .i64 l[k].x)∧w'.cell? ⟨b,o+k*7+6,none⟩=some (.int .u8 l[k].why):=by
 obtain⟨b,o,ha,hc⟩:=h.2 hn
 refine⟨b,o,ha,fun w' hb k hk=>?_⟩
 have c0:=later hb (hc k hk 0 (.int .u8 l[k].kind) rfl)
 rw[Nat.add_zero]at c0
 exact⟨c0,later hb (hc k hk 1 (.int .i64 l[k].th) rfl),later hb (hc k hk 2 (.int .i64 l[k].tx) rfl),later hb (hc k hk 3 (.int .i64 l[k].at_) rfl),later hb (hc k hk 4 (.int .i64 l[k].v) rfl),later hb (hc k hk 5 (.int .i64 l[k].x) rfl),later hb (hc k hk 6 (.int .u8 l[k].why) rfl)⟩
theorem sS {l:List Ev} {k:Nat} (h:k < l.length):dL l k=l[k]:=by unfold dL;rw[List.getD_eq_getElem?_getD,List.getElem?_eq_getElem h];rfl
def CB (m:List Nat):List Value:=m.map fun(i:Nat)=>Value.int .i64 (i:Int)
theorem AQ (m:List Nat) (k:Nat):CB (m++[k])=CB m++[.int .i64 (k:Int)]:=by unfold CB;rw[List.map_append];rfl
def jQ (l:List Ev) (b k:Nat):List Nat:=(List.range k).filter (tJ l b)
theorem sN (l:List Ev) (b k:Nat):(jQ l b k).length≤k:=by
 unfold jQ
 have:=List.length_filter_le (tJ l b) (List.range k)
 rwa [List.length_range]at this
theorem yG (l:List Ev) (b k:Nat):jQ l b (k+1)=jQ l b k++if tJ l b k=true then[k]else[]:=by
 unfold jQ
 rw[List.range_succ,List.filter_append,List.filter_cons,List.filter_nil]
theorem uQ {l:List Ev} {b k:Nat} (h:tJ l b k=false):jQ l b (k+1)=jQ l b k:=by rw[yG,h];simp
theorem AL {l:List Ev} {b k:Nat} (h:tJ l b k=true):jQ l b (k+1)=jQ l b k++[k]:=by rw[yG,h];simp
theorem JV {l:List Ev} {b k:Nat} (hb:b < k) (h1:(dL l k).th=(dL l b).th) (h2:(dL l k).kind=1):∀ n,k≤n→jQ l b n=jQ l b k:=by
 intro n hn
 induction n with
 | zero=>
  obtain rfl:k=0:=by omega
  rfl
 | succ n ih=>
  by_cases he:k=n+1
  ·rw[he]
  ·rw[uQ (by rw[Bool.eq_false_iff];intro hc;exact(gz.1 hc).2.2.2 k hb (by omega) h1 h2)]
   exact ih (by omega)
def Rx (l:List Ev) (b:Nat) (w:World) (e:Ending) (w':World):Prop:=
 ∃ v,e=.returned v∧Below w.heap.size w w'∧bU w' w.heap.size 3 1 v (dZ l b).length (CB (dZ l b))
set_option maxRecDepth 100000 in
set_option maxHeartbeats 8000000 in
theorem yH (T V S:Int) (a:Option Addr) (l:List Ev) (cap:Nat) (w:World) (hE:cO w a l) (hl:l.length≤1048576) (b:Nat) (hb:b < l.length):
  Calls Tryd.prog 26 #[oZ T V S a l.length cap,.int .i64 (b:Int)] w (Rx l b w):=by
 obtain⟨i0,hi0,hz0,hz1,hz2⟩:=info_parts pR
 obtain⟨bl,o,rfl,hc⟩:=XA hE (by intro h;rw[h]at hb;simp at hb)
 obtain⟨W0,hW0⟩:∃ W0,W0=w.alloc (.cells #[.int .i64 T,.int .i64 V,.int .i64 S,.slice (some ⟨bl,o,none⟩) l.length cap] 24):=⟨_,rfl⟩
 have O3:Hid (aA W0 w.heap.size #[.int .i64 T,.int .i64 V,.int .i64 S,.slice (some ⟨bl,o,none⟩) l.length cap] 24):=hid (by rw[hW0];exact aA.new _ _ _)
 have HB0:Hid (Below w.heap.size w W0):=hid (by rw[hW0];exact ah (af _) _)
 have HC:=hid (fun w' (hW:Below W0.heap.size W0 w')=>hc w' (ag HB0.out hW))
 have HL:=hid hl
 have UO:=hid hb
 have hb1:(b:Int) < (l.length:Int):=by omega
 have hb2:decide (b < l.length)=true:=decide_eq_true hb
 have hb3:(0:Int)≤(b:Int):=by omega
 have zL:=hid (And.intro hb1 (And.intro hb2 hb3))
 obtain⟨Q,hQ⟩:∃ Q,Q=Rx l b w:=⟨_,rfl⟩
 have HP:Hid (∀ v W',Below W0.heap.size W0 W'→bU W' W0.heap.size 3 1 v (dZ l b).length (CB (dZ l b))→Q (.returned v) W'):=hid (by
  intro v W' h1 h2
  rw[hQ]
  exact⟨v,rfl,ag HB0.out h1,h2.wider HB0.out.size⟩)
 rw[←hQ]
 clear hE hl hb hc hQ hb1 hb2 hb3
 unfold oZ
 go_enter Tryd.func26,Tryd.ntmps26
 go_wp2_with fail
 rw[←hW0]
 clear hW0
 go_loopw [5,6] (fun y i wr=>∃ k:Nat,b≤k∧k≤l.length∧i=.int .i64 (k:Int)∧Hid (∀ j,b < j→j < k→(dL l j).th=(dL l b).th→(dL l j).kind≠1)∧Hid (bU wr W0.heap.size 3 1 y (jQ l b k).length (CB (jQ l b k)))∧Hid (Below W0.heap.size W0 wr)) (fun _ i _=>l.length-(intOf i).toNat)
 case atStart=>
  have h0:jQ l b b=[]:=by
   unfold jQ
   rw[List.filter_eq_nil_iff]
   intro i hi
   have:=List.mem_range.1 hi
   unfold tJ
   simp[show ¬ b≤i by omega]
  exact⟨b,Nat.le_refl _,Nat.le_of_lt UO.out,rfl,hid (fun j h1 h2=>by omega),hid (by rw[h0];exact bU.nil _ _ _ _),hid (af _)⟩
 case round=>
  obtain⟨k,hbk,hk,rfl,HNB,QI,fB⟩:=hrel
  obtain⟨py,cy,hyv⟩:=QI.out.shape
  subst hyv
  have y3:=(O3.out.below fB.out).cell 3 (v:=.slice (some ⟨bl,o,none⟩) l.length cap) rfl
  by_cases hlt:k < l.length
  ·obtain⟨c0,c1,c2,c3,c4,c5,c6⟩:=HC.out _ fB.out k hlt
   have HD:=hid (fun w' hW=>(HC.out w' hW b UO.out).2.1)
   have HK:Hid (dL l k=l[k]):=hid (sS hlt)
   have HKB:Hid (dL l b=l[b]'UO.out):=hid (sS UO.out)
   generalize l[k]=x at c0 c1 c2 c3 c4 c5 c6 HK
   generalize l[b]'UO.out=xb at HD HKB
   have Wl:Hid (x.th=xb.th→x.kind≠13→¬ (b < k∧x.kind=1)→tJ l b k=true):=hid (fun h1 h2 h3=>gz.2 ⟨hbk,by rw[HK.out,HKB.out];exact h1,by rw[HK.out];exact h2,fun j a1 a2 a3=>by
    by_cases hj:j=k
    ·subst hj;rw[HK.out];exact fun h4=>h3 ⟨a1,h4⟩
    ·exact HNB.out j a1 (by omega) a3⟩)
   have Jg:Hid (x.th≠xb.th∨x.kind=13→tJ l b k=false):=hid (fun h=>by
    rw[Bool.eq_false_iff]
    intro hc
    have h1:=gz.1 hc
    rw[HK.out,HKB.out]at h1
    rcases h with h | h
    ·exact h h1.2.1
    ·exact h1.2.2.1 h)
   have Oy:Hid (¬ (b < k∧x.th=xb.th∧x.kind=1)→∀ j,b < j→j < k+1→(dL l j).th=(dL l b).th→(dL l j).kind≠1):=hid (fun h j a1 a2 a3=>by
    by_cases hj:j=k
    ·subst hj
     rw[HK.out,HKB.out]at a3
     rw[HK.out]
     exact fun h4=>h ⟨a1,a3,h4⟩
    ·exact HNB.out j a1 (by omega) a3)
   have Ip:Hid (b < k→x.th=xb.th→x.kind=1→jQ l b k=dZ l b):=hid (fun h1 h2 h3=>by
    have:=JV (l:=l) (b:=b) (k:=k) h1 (by rw[HK.out,HKB.out];exact h2) (by rw[HK.out];exact h3) l.length (by omega)
    exact this.symm)
   have hk1:decide ((k:Int) < (l.length:Int))=true:=decide_eq_true (by omega)
   have hk0:(0:Int)≤(k:Int):=by omega
   have hk3:decide (k < l.length)=true:=decide_eq_true hlt
   have hk5:(k:Int) < (l.length:Int):=by omega
   have dX:Hid (IntKind.i64.wrap ((k:Int)+1)=(k:Int)+1):=hid (IntWalk.i64_in _ (by have:=HL.out;omega))
   have bf:=hid hlt
   have RQ:=hid hbk
   clear hlt hk hbk
   go_wp2_with fail
   obtain⟨hb1,hb2,hb3⟩:=zL.out
   have d1:=HD.out wr fB.out
   have e1:=(aA.new wr #[.int .u8 x.kind,.int .i64 x.th,.int .i64 x.tx,.int .i64 x.at_,.int .i64 x.v,.int .i64 x.x,.int .u8 x.why] 49).cell 1 (v:=.int .i64 x.th) rfl
   have y3':=((O3.out.below fB.out).alloc (.cells #[.int .u8 x.kind,.int .i64 x.th,.int .i64 x.tx,.int .i64 x.at_,.int .i64 x.v,.int .i64 x.x,.int .u8 x.why] 49)).cell 3 (v:=.slice (some ⟨bl,o,none⟩) l.length cap) rfl
   have d1':=later (ah (af wr) (.cells #[.int .u8 x.kind,.int .i64 x.th,.int .i64 x.tx,.int .i64 x.at_,.int .i64 x.v,.int .i64 x.x,.int .u8 x.why] 49)) d1
   clear d1 c0 c1 c2 c3 c4 c5 c6 y3
   go_quiet (fail)
   have HB3:Hid (Below W0.heap.size W0 ((wr.alloc (.cells #[.int .u8 x.kind,.int .i64 x.th,.int .i64 x.tx,.int .i64 x.at_,.int .i64 x.v,.int .i64 x.x,.int .u8 x.why] 49)).drewN nq)):=hid (ai (ah fB.out _) _)
   have HR3:Hid (bU ((wr.alloc (.cells #[.int .u8 x.kind,.int .i64 x.th,.int .i64 x.tx,.int .i64 x.at_,.int .i64 x.v,.int .i64 x.x,.int .u8 x.why] 49)).drewN nq) W0.heap.size 3 1 (.slice py (jQ l b k).length cy) (jQ l b k).length (CB (jQ l b k))):=hid (QI.out.old (ai (ah (af _) _) _))
   have WY:Hid (aA ((wr.alloc (.cells #[.int .u8 x.kind,.int .i64 x.th,.int .i64 x.tx,.int .i64 x.at_,.int .i64 x.v,.int .i64 x.x,.int .u8 x.why] 49)).drewN nq) wr.heap.size #[.int .u8 x.kind,.int .i64 x.th,.int .i64 x.tx,.int .i64 x.at_,.int .i64 x.v,.int .i64 x.x,.int .u8 x.why] 49):=hid ((aA.new _ _ _).below (ai (af _) _))
   obtain⟨W3,hW3⟩:∃ W3,W3=((wr.alloc (.cells #[.int .u8 x.kind,.int .i64 x.th,.int .i64 x.tx,.int .i64 x.at_,.int .i64 x.v,.int .i64 x.x,.int .u8 x.why] 49)).drewN nq):=⟨_,rfl⟩
   rw[←hW3]at HB3 HR3 WY⊢
   clear hW3 e1 y3' d1'
   have e0:=WY.out.cell 0 (v:=.int .u8 x.kind) rfl
   have hk4:=dX.out
   by_cases t1:x.th=xb.th
   ·have x1:(x.th !=xb.th)=false:=by simp[t1]
    by_cases t2:b < k
    ·have x2:decide ((b:Int) < (k:Int))=true:=decide_eq_true (by omega)
     have x2':decide (b < k)=true:=decide_eq_true t2
     by_cases t3:x.kind=1
     ·have x3:(x.kind==1)=true:=by simp[t3]
      have HE:=hid (Ip.out t2 t1 t3)
      clear t1 t2 t3
      go_wp2_with fail
      exact HP.out _ _ HB3.out (by rw[←HE.out];exact HR3.out)
     ·have x3:(x.kind==1)=false:=by simp[t3]
      by_cases t4:x.kind=13
      ·have x4:(x.kind==13)=true:=by simp[t4]
       have x5:(x.kind !=13)=false:=by simp[t4]
       have CZ:=hid (Oy.out (fun h=>t3 h.2.2))
       have HZ:=hid (uQ (Jg.out (Or.inr t4)))
       clear t1 t2 t4 t3
       go_wp2_with fail
       go_roundw
       case rel=>exact⟨k+1,by have:=RQ.out;omega,bf.out,by go_num,CZ,hid (by rw[HZ.out];exact HR3.out),HB3⟩
       case measure=>simp[intOf];have:=bf.out;omega
      ·have x4:(x.kind==13)=false:=by simp[t4]
       have x5:(x.kind !=13)=true:=by simp[t4]
       have CZ:=hid (Oy.out (fun h=>t3 h.2.2))
       have HZ:=hid (AL (Wl.out t1 t4 (fun h=>t3 h.2)))
       clear t1 t2 t4 t3
       have LC:=hid (Nat.le_trans (sN l b k) (Nat.le_of_lt bf.out))
       have hown1:=fC HR3.out.1 (ah (af _) (.cells #[.int .i64 (k:Int)] 3))
       have hb4:Below W0.heap.size W0 (W3.alloc (.cells #[.int .i64 (k:Int)] 3)):=ah HB3.out _
       have cn:=(aA.new W3 #[.int .i64 (k:Int)] 3).cell 0 (v:=.int .i64 (k:Int)) rfl
       go_wp2_with (first
        | (at_builtin;refine wpList_append_own_at _ rfl (.tmp 41) (.tmp 43) 32 rfl W0.heap.size 3 i0 _ 1 8 Tryd.underlying32 hi0 hz0 hz1 hz2 rfl (by decide) (.slice py (jQ l b k).length cy) _ _ rfl hown1 ⟨W3.heap.size,0,none⟩ 1 1 [.int .i64 (k:Int)] rfl rfl (by intro j u hu;cases j with | zero=>(simp at hu;subst hu;exact cn) | succ j=>(simp at hu)) (by intro u hu;simp at hu;subst hu;rfl) (by have:=LC.out;have:=HL.out;unfold maxLen;omega) (by have:=LC.out;have:=HL.out;omega) hb4.size ?_;intro v' w5 hown' hg hn hd;obtain⟨g,cp,rfl⟩:=fA hown'))
       have qN:=hid (hb4.grown hg hb4.size (fun k hk=>(hown1.lt k hk).1))
       have HO:=hid hown'
       clear hown' hg hn hd hown1 hb4 cn
       go_wp2_with fail
       go_roundw
       case rel=>exact⟨k+1,by have:=RQ.out;omega,bf.out,by go_num,CZ,hid (by rw[HZ.out,AQ,List.length_append];exact⟨HO.out,fun h=>by simp at h⟩),qN⟩
       case measure=>simp[intOf];have:=bf.out;omega
    ·have x2:decide ((b:Int) < (k:Int))=false:=decide_eq_false (by omega)
     have x2':decide (b < k)=false:=decide_eq_false t2
     by_cases t4:x.kind=13
     ·have x4:(x.kind==13)=true:=by simp[t4]
      have x5:(x.kind !=13)=false:=by simp[t4]
      have CZ:=hid (Oy.out (fun h=>t2 h.1))
      have HZ:=hid (uQ (Jg.out (Or.inr t4)))
      clear t1 t2 t4
      go_wp2_with fail
      go_roundw
      case rel=>exact⟨k+1,by have:=RQ.out;omega,bf.out,by go_num,CZ,hid (by rw[HZ.out];exact HR3.out),HB3⟩
      case measure=>simp[intOf];have:=bf.out;omega
     ·have x4:(x.kind==13)=false:=by simp[t4]
      have x5:(x.kind !=13)=true:=by simp[t4]
      have CZ:=hid (Oy.out (fun h=>t2 h.1))
      have HZ:=hid (AL (Wl.out t1 t4 (fun h=>t2 h.1)))
      clear t1 t2 t4
      have LC:=hid (Nat.le_trans (sN l b k) (Nat.le_of_lt bf.out))
      have hown1:=fC HR3.out.1 (ah (af _) (.cells #[.int .i64 (k:Int)] 3))
      have hb4:Below W0.heap.size W0 (W3.alloc (.cells #[.int .i64 (k:Int)] 3)):=ah HB3.out _
      have cn:=(aA.new W3 #[.int .i64 (k:Int)] 3).cell 0 (v:=.int .i64 (k:Int)) rfl
      go_wp2_with (first
       | (at_builtin;refine wpList_append_own_at _ rfl (.tmp 41) (.tmp 43) 32 rfl W0.heap.size 3 i0 _ 1 8 Tryd.underlying32 hi0 hz0 hz1 hz2 rfl (by decide) (.slice py (jQ l b k).length cy) _ _ rfl hown1 ⟨W3.heap.size,0,none⟩ 1 1 [.int .i64 (k:Int)] rfl rfl (by intro j u hu;cases j with | zero=>(simp at hu;subst hu;exact cn) | succ j=>(simp at hu)) (by intro u hu;simp at hu;subst hu;rfl) (by have:=LC.out;have:=HL.out;unfold maxLen;omega) (by have:=LC.out;have:=HL.out;omega) hb4.size ?_;intro v' w5 hown' hg hn hd;obtain⟨g,cp,rfl⟩:=fA hown'))
      have qN:=hid (hb4.grown hg hb4.size (fun k hk=>(hown1.lt k hk).1))
      have HO:=hid hown'
      clear hown' hg hn hd hown1 hb4 cn
      go_wp2_with fail
      go_roundw
      case rel=>exact⟨k+1,by have:=RQ.out;omega,bf.out,by go_num,CZ,hid (by rw[HZ.out,AQ,List.length_append];exact⟨HO.out,fun h=>by simp at h⟩),qN⟩
      case measure=>simp[intOf];have:=bf.out;omega
   ·have x1:(x.th !=xb.th)=true:=by simp[t1]
    have HZ:=hid (uQ (Jg.out (Or.inl t1)))
    have CZ:=hid (Oy.out (fun h=>t1 h.2.1))
    clear t1
    go_wp2_with fail
    go_roundw
    case rel=>exact⟨k+1,by have:=RQ.out;omega,bf.out,by go_num,CZ,hid (by rw[HZ.out];exact HR3.out),HB3⟩
    case measure=>simp[intOf];have:=bf.out;omega
  ·obtain rfl:k=l.length:=by omega
   have hk1:decide ((l.length:Int) < (l.length:Int))=false:=decide_eq_false (by omega)
   clear hlt hk
   go_wp2_with fail
   exact HP.out _ _ fB.out QI.out
def uy (o:List Int):Array Value:=(o.map (.int .i64)).toArray
theorem zI {o:List Int} {i:Nat} (h:i < o.length):(uy o)[i]? =some (.int .i64 o[i]):=by
 unfold uy
 rw[List.getElem?_toArray,List.getElem?_map,List.getElem?_eq_getElem h];rfl
theorem Oj (o:List Int) (i:Nat) (x:Int):(uy o).setIfInBounds i (.int .i64 x)=uy (o.set i x):=by
 unfold uy
 rw[List.setIfInBounds_toArray,List.map_set]
theorem stI {w:World} {G:Nat} {o:List Int} {t:TypeId} (h:aA w G (uy o) t) (i:Nat) (x:Int):aA (w.setCell ⟨G,i,none⟩ (.int .i64 x)) G (uy (o.set i x)) t:=by
 have:=h.set i (.int .i64 x)
 rwa [Oj]at this
theorem MM (n:Nat):madeCells #[Value.int .i64 0] (n*1)=uy (List.replicate n 0):=by
 rw[sO _ 1 n rfl (by omega)]
 unfold fH uy
 congr 1
 induction n with
 | zero=>rfl
 | succ n ih=>rw[List.replicate_succ,List.flatten_cons,ih];rfl
theorem SE (W:World) (n:Nat) (hn:n≤2000):(Instr.makeSlice 32 (.int .i64 (n:Int)) (.int .i64 (n:Int))).run Tryd.prog W=.ok (.slice (some ⟨W.heap.size,0,none⟩) n n) (W.alloc (.cells (uy (List.replicate n 0)) 3)):=by
 obtain⟨i0,hi,hz0,hz1,hz2⟩:=info_parts pR
 rw[run_make W 32 3 i0 _ Tryd.underlying32 hi hz0 .i64 .i64 n n (by omega) (by omega) (by rw[hz2];omega) (by omega),hz1]
 simp only[Int.toNat_natCast]
 rw[show(Value.int .i64 0).cells=#[Value.int .i64 0]from rfl,MM]
def D6 (n k:Nat):List Int:=List.replicate k (-1)++List.replicate (n-k) 0
theorem JK {n k:Nat} (h:k < n):(D6 n k).set k (-1)=D6 n (k+1):=by
 unfold D6
 rw[List.set_append_right _ _ (by simp),List.length_replicate,Nat.sub_self]
 obtain⟨m,hm⟩:∃ m,n-k=m+1:=⟨n-k-1,by omega⟩
 rw[hm,List.replicate_succ,List.set_cons_zero,show n-(k+1)=m by omega]
 rw[List.replicate_succ',List.append_assoc];rfl
theorem MI {n k:Nat} (h:k≤n):(D6 n k).length=n:=by unfold D6;simp;omega
theorem FX (o:List Int) (m:List Nat) (i:Nat) (n:Int):qV o (m++[i]) n=(qV o m n).set i n:=by unfold qV;rw[List.foldl_append];rfl
theorem yj {w:World} {base:Nat} {v:Value} {m:List Nat} (h:bU w base 3 1 v m.length (CB m)) (hm:0 < m.length):∃ g c,v=.slice (some ⟨g,0,none⟩) m.length c∧base≤g∧∀ j (hj:j < m.length),w.cell? ⟨g,j,none⟩=some (.int .i64 (m[j]:Int)):=by
 rcases h.cases with⟨h0,-,-⟩ | ⟨g,cap,hv,-,-,hg,-,hu⟩
 ·omega
 ·refine⟨g,cap,hv,hg,fun j hj=>?_⟩
  have:=hu j (.int .i64 (m[j]:Int)) (by unfold CB;rw[List.getElem?_map,List.getElem?_eq_getElem hj];rfl)
  simpa using this
theorem BD (l:List Ev) (k:Nat):0≤(splitK l k).2∧(splitK l k).2≤k:=by
 rw[qU]
 have:=List.length_filter_le (Fe l) (List.range k)
 rw[List.length_range]at this
 omega
def Ic (T V S:Int) (l:List Ev) (w:World) (e:Ending) (w':World):Prop:=
 ∃ v,e=.returned (.tuple #[v,.int .i64 (aW T V S l).2])∧Below w.heap.size w w'∧U1 w' (if(aW T V S l).2=0 then nD l else[]) v
set_option maxRecDepth 100000 in
set_option maxHeartbeats 8000000 in
theorem FY (T V S:Int) (a:Option Addr) (l:List Ev) (cap:Nat) (w:World) (hE:cO w a l) (hl:l.length≤2000) (hcap:l.length≤cap) (hN:kL w):
  Calls Tryd.prog 11 #[oZ T V S a l.length cap] w (Ic T V S l w):=by
 obtain⟨W0,hW0⟩:∃ W0,W0=w.alloc (.cells #[.int .i64 T,.int .i64 V,.int .i64 S,.slice a l.length cap] 24):=⟨_,rfl⟩
 have O3:Hid (aA W0 w.heap.size #[.int .i64 T,.int .i64 V,.int .i64 S,.slice a l.length cap] 24):=hid (by rw[hW0];exact aA.new _ _ _)
 have HB0:Hid (Below w.heap.size w W0):=hid (by rw[hW0];exact ah (af _) _)
 have uG:=hid (fun W (hW:Below w.heap.size w W)=>uJ T V S a l cap W (hE.below hW) (by omega) hcap (hN.below hW))
 have ZN:=hid (fun W (hW:Below w.heap.size w W) b hb=>yH T V S a l cap W (hE.below hW) (by omega) b hb)
 have HE:=hid hE
 have HL:=hid hl
 obtain⟨Q,hQ⟩:∃ Q,Q=Ic T V S l w:=⟨_,rfl⟩
 obtain⟨p,q,hpq⟩:∃ p q,aW T V S l=(p,q):=⟨_,_,rfl⟩
 have HP:Hid (∀ v W',Below w.heap.size w W'→U1 W' (if q=0 then nD l else[]) v→Q (.returned (.tuple #[v,.int .i64 q])) W'):=hid (by
  intro v W' h1 h2
  rw[hQ]
  refine⟨v,by rw[hpq],h1,by rw[hpq];exact h2⟩)
 rw[←hQ]
 rw[hpq]at uG
 have hmk:=fun W=>SE W l.length hl
 have b1:decide ((9223372036854775807:Int) < (l.length:Int))=false:=by rw[decide_eq_false_iff_not];omega
 have b2:decide ((l.length:Int) < 0)=false:=by rw[decide_eq_false_iff_not];omega
 clear hE hl hcap hN hQ hpq
 unfold oZ at*
 dsimp only at uG
 go_enter Tryd.func11,Tryd.ntmps11
 go_wp2_with fail
 rw[←hW0]
 clear hW0
 refine(uG.out _ HB0.out).mono ?_
 rintro e' w1 ⟨rfl,hb1⟩
 have HB1:=hid (ag HB0.out hb1)
 have xH:=hid (O3.out.below hb1)
 clear hb1 O3
 by_cases hq:q=0
 case neg=>
  have q1:(q==0)=false:=by simpa using hq
  have q2:(q !=0)=true:=by simpa using hq
  have HQ:=hid hq
  clear hq
  go_wp2_with fail
  exact HP.out _ _ HB1.out (by rw[if_neg HQ.out];exact⟨none,0,rfl,by simp,fun h=>absurd rfl h⟩)
 subst hq
 have y3:=xH.out.cell 3 (v:=.slice a l.length cap) rfl
 go_wp2_with fail
 have HN0:=hid (show l.length≤2000 from HL.out)
 clear b1 b2 hmk
 go_loopw [7] (fun i wr=>∃ k:Nat,k≤l.length∧i=.int .i64 (k:Int)∧Hid (aA wr w1.heap.size (uy (D6 l.length k)) 3)∧Hid (Below w1.heap.size w1 wr)) (fun i _=>l.length-(intOf i).toNat)
 case atStart=>exact⟨0,Nat.zero_le _,rfl,hid (by unfold D6;simpa using aA.new w1 (uy (List.replicate l.length 0)) 3),hid (ah (af _) _)⟩
 case round=>
  obtain⟨k,hk,rfl,Di,fB⟩:=hrel
  by_cases hlt:k < l.length
  ·have hk0:(0:Int)≤(k:Int):=by omega
   have hk1:decide ((k:Int) < (l.length:Int))=true:=decide_eq_true (by omega)
   have hk3:decide (k < l.length)=true:=decide_eq_true hlt
   have hk5:(k:Int) < (l.length:Int):=by omega
   have hk4:IntKind.i64.wrap ((k:Int)+1)=(k:Int)+1:=IntWalk.i64_in _ (by have:=HL.out;omega)
   obtain⟨x0,c⟩:∃ x0,wr.cell? ⟨w1.heap.size,k,none⟩=some x0:=⟨_,Di.out.cell k (zI (by rw[MI hk];exact hlt))⟩
   have z:=Di.out.free k
   have bf:=hid hlt
   clear hlt hk
   go_wp2_with fail
   go_roundw
   case rel=>exact⟨k+1,bf.out,by go_num,hid (by rw[←JK bf.out];exact stI Di.out k (-1)),hid (fB.out.setCell (p:=⟨w1.heap.size,k,none⟩) (Nat.le_refl _) _)⟩
   case measure=>simp[intOf];have:=bf.out;omega
  ·obtain rfl:k=l.length:=by omega
   have hk1:decide ((l.length:Int) < (l.length:Int))=false:=decide_eq_false (by omega)
   clear hlt hk
   have U5:Hid (aA wr w1.heap.size (uy (splitK l 0).1) 3):=hid (by
    have h:=Di.out
    unfold D6 at h
    simpa[splitK]using h)
   clear Di y3
   have y3:=(xH.out.below fB.out).cell 3 (v:=.slice a l.length cap) rfl
   go_wp2_with fail
   clear hk1 y3
   go_loopw [8,9] (fun y i wr=>∃ k:Nat,k≤l.length∧i=.int .i64 (k:Int)∧y=.int .i64 (splitK l k).2∧Hid (aA wr w1.heap.size (uy (splitK l k).1) 3)∧Hid (Below w1.heap.size w1 wr)) (fun _ i _=>l.length-(intOf i).toNat)
   case atStart=>exact⟨0,Nat.zero_le _,rfl,rfl,U5,fB⟩
   case round=>
    clear U5 fB
    obtain⟨k,hk,rfl,rfl,Di,fB⟩:=hrel
    have y0:=(xH.out.below fB.out).cell 0 (v:=.int .i64 T) rfl
    have y1:=(xH.out.below fB.out).cell 1 (v:=.int .i64 V) rfl
    have y2:=(xH.out.below fB.out).cell 2 (v:=.int .i64 S) rfl
    have y3:=(xH.out.below fB.out).cell 3 (v:=.slice a l.length cap) rfl
    by_cases hlt:k < l.length
    ·obtain⟨bl,o,rfl,hc⟩:=XA HE.out (by intro h;rw[h]at hlt;simp at hlt)
     have c0:=(hc wr (ag HB1.out fB.out) k hlt).1
     have HK:Hid (dL l k=l[k]):=hid (sS hlt)
     generalize l[k]=x at c0 HK
     obtain⟨kind,iW,etx,eat,ev,ex,V9⟩:=x
     dsimp only at c0
     have HKK:Hid ((dL l k).kind=kind):=hid (by rw[HK.out])
     have hk0:(0:Int)≤(k:Int):=by omega
     have hk1:decide ((k:Int) < (l.length:Int))=true:=decide_eq_true (by omega)
     have hk3:decide (k < l.length)=true:=decide_eq_true hlt
     have hk5:(k:Int) < (l.length:Int):=by omega
     have hk4:IntKind.i64.wrap ((k:Int)+1)=(k:Int)+1:=IntWalk.i64_in _ (by have:=HL.out;omega)
     have bf:=hid hlt
     have Ze:=hid (oC l k)
     have hbd:=BD l k
     have hol:=kV l k
     obtain⟨os,n,hon⟩:∃ os n,splitK l k=(os,n):=⟨_,_,rfl⟩
     rw[hon]at Di Ze hbd hol⊢
     dsimp only at Di hbd hol⊢
     have HOL:=hid hol
     have hn4:IntKind.i64.wrap (n+1)=n+1:=IntWalk.i64_in _ (by have:=HL.out;omega)
     have ZM:=hid hn4
     clear hlt hk hc hon hbd hol hn4 HK
     by_cases t:kind=1
     case neg=>
      have x1:(kind==1)=false:=by simp[t]
      have x2:(kind !=1)=true:=by simp[t]
      have HZ:Hid (splitK l (k+1)=(os,n)):=hid (by rw[Ze.out];unfold yf Fe;rw[HKK.out,decide_eq_false t];rfl)
      clear t
      go_wp2_with fail
      go_roundw
      case rel=>exact⟨k+1,bf.out,by go_num,by rw[HZ.out],hid (by rw[HZ.out];exact Di.out),fB⟩
      case measure=>simp[intOf];have:=bf.out;omega
     have x1:(kind==1)=true:=by simp[t]
     have x2:(kind !=1)=false:=by simp[t]
     have HZ:Hid (splitK l (k+1)=(qV os (dZ l k) n,n+1)):=hid (by rw[Ze.out];unfold yf Fe;rw[HKK.out,decide_eq_true t];rfl)
     have HKM:Hid (0 < (dZ l k).length):=hid (List.length_pos_of_mem (jY.2 ⟨bf.out,gz.2 ⟨Nat.le_refl _,rfl,by rw[HKK.out];omega,fun j a1 a2=>by omega⟩⟩))
     have XL:Hid (∀ i∈dZ l k,i < l.length):=hid (fun i hi=>(jY.1 hi).1)
     have Oz:Hid ((dZ l k).length≤l.length):=hid (by have:=sN l k l.length;exact this)
     clear t
     go_wp2_with fail
     refine(ZN.out wr (ag HB1.out fB.out) k bf.out).mono ?_
     rintro e' w5 ⟨v,rfl,hb5,hr⟩
     obtain⟨g,cg,rfl,hg,hcg⟩:=yj hr HKM.out
     have jC:Hid (g≠w1.heap.size):=hid (by have:=Di.out.lt;omega)
     have O1:=hid hcg
     have Xf:=hid (Di.out.below hb5)
     have Xc:=hid (ag fB.out hb5)
     clear hb5 hr hg hcg Di fB c0 y0 y1 y2 y3
     generalize dZ l k=m at*
     have hn4:=ZM.out
     go_wp2_with fail
     go_loopw [11] (fun i wq=>∃ j:Nat,j≤m.length∧i=.int .i64 (j:Int)∧Hid (aA wq w1.heap.size (uy (qV os (m.take j) n)) 3)∧Hid (∀ j (hj:j < m.length),wq.cell? ⟨g,j,none⟩=some (.int .i64 (m[j]:Int)))∧Hid (Below w1.heap.size w1 wq)) (fun i _=>m.length-(intOf i).toNat)
     case atStart=>exact⟨0,Nat.zero_le _,rfl,Xf,O1,Xc⟩
     case round=>
      clear Xf O1 Xc
      obtain⟨j,hj,rfl,Di,O1,fB⟩:=hrel
      by_cases hjl:j < m.length
      ·have r:=O1.out j hjl
       have HX:Hid (m[j] < l.length):=hid (XL.out _ (List.getElem_mem hjl))
       have xR:=hid (List.take_succ_eq_append_getElem hjl)
       generalize m[j]=x at r HX xR
       obtain⟨x0,c⟩:∃ x0,wr.cell? ⟨w1.heap.size,x,none⟩=some x0:=⟨_,Di.out.cell x (zI (by rw[vW,HOL.out];exact HX.out))⟩
       have z:=Di.out.free x
       have j0:(0:Int)≤(j:Int):=by omega
       have j1:decide ((j:Int) < (m.length:Int))=true:=decide_eq_true (by omega)
       have j2:decide (j < m.length)=true:=decide_eq_true hjl
       have j3:(j:Int) < (m.length:Int):=by omega
       have j4:IntKind.i64.wrap ((j:Int)+1)=(j:Int)+1:=IntWalk.i64_in _ (by have:=Oz.out;have:=HL.out;omega)
       have v0:(0:Int)≤(x:Int):=by omega
       have v1:(x:Int) < (l.length:Int):=by have:=HX.out;omega
       have v2:decide (x < l.length)=true:=decide_eq_true HX.out
       have HJ:=hid hjl
       clear hjl hj
       go_wp2_with fail
       go_roundw
       case rel=>exact⟨j+1,HJ.out,by go_num,hid (by rw[xR.out,FX];exact stI Di.out x n),hid (fun q hq=>N8 (O1.out q hq) ⟨w1.heap.size,x,none⟩ _ jC.out),hid (fB.out.setCell (p:=⟨w1.heap.size,x,none⟩) (Nat.le_refl _) _)⟩
       case measure=>simp[intOf];have:=HJ.out;omega
      ·obtain rfl:j=m.length:=by omega
       have j1:decide ((m.length:Int) < (m.length:Int))=false:=decide_eq_false (by omega)
       rw[List.take_length]at Di
       clear hjl hj
       go_wp2_with fail
       go_roundw
       case rel=>exact⟨k+1,bf.out,by go_num,by rw[HZ.out],hid (by rw[HZ.out];exact Di.out),fB⟩
       case measure=>simp[intOf];have:=bf.out;omega
    ·obtain rfl:k=l.length:=by omega
     have hk1:decide ((l.length:Int) < (l.length:Int))=false:=decide_eq_false (by omega)
     clear hlt hk
     go_wp2_with fail
     refine HP.out (.slice (some ⟨w1.heap.size,0,none⟩) l.length l.length) _ (ag HB1.out fB.out) ?_
     have hs:(nD l).length=l.length:=kV l l.length
     rw[if_pos trivial]
     refine⟨some ⟨w1.heap.size,0,none⟩,l.length,by rw[hs],by rw[hs];have:=HL.out;omega,fun _=>⟨w1.heap.size,0,rfl,fun q hq=>?_⟩⟩
     rw[Nat.zero_add]
     exact Di.out.cell q (zI hq)
def Pj (w:World) (b:Nat) (v0 v1 v2 v3 v4 v5 v6:Value):World:=((((((w.setCell ⟨b,0,none⟩ v0).setCell ⟨b,1,none⟩ v1).setCell ⟨b,2,none⟩ v2).setCell ⟨b,3,none⟩ v3).setCell ⟨b,4,none⟩ v4).setCell ⟨b,5,none⟩ v5).setCell ⟨b,6,none⟩ v6
theorem Vk {w:World} {b:Nat} {c0 c1 c2 c3 c4 c5 c6:Value} {t:TypeId} (h:aA w b #[c0,c1,c2,c3,c4,c5,c6] t) (v0 v1 v2 v3 v4 v5 v6:Value):aA (Pj w b v0 v1 v2 v3 v4 v5 v6) b #[v0,v1,v2,v3,v4,v5,v6] t:=by
 have:=((((((h.set 0 v0).set 1 v1).set 2 v2).set 3 v3).set 4 v4).set 5 v5).set 6 v6
 simpa[Pj]using this
theorem Vw {a w:World} {B b:Nat} (h:Below B a w) (hb:B≤b) (v0 v1 v2 v3 v4 v5 v6:Value):Below B a (Pj w b v0 v1 v2 v3 v4 v5 v6):=
 ((((((h.setCell (p:=⟨b,0,none⟩) hb v0).setCell (p:=⟨b,1,none⟩) hb v1).setCell (p:=⟨b,2,none⟩) hb v2).setCell (p:=⟨b,3,none⟩) hb v3).setCell (p:=⟨b,4,none⟩) hb v4).setCell (p:=⟨b,5,none⟩) hb v5).setCell (p:=⟨b,6,none⟩) hb v6
theorem Rt {cs:Array Value} (h:cs.size=7):∃ c0 c1 c2 c3 c4 c5 c6,cs=#[c0,c1,c2,c3,c4,c5,c6]:=by
 obtain⟨l⟩:=cs
 match l,h with
 | [a,b,c,d,e,f,g],_=>exact⟨a,b,c,d,e,f,g,rfl⟩
structure By (W0:World) (n:Nat) (K:Nat→Value) (E:Array Value) (t:TypeId) (l:Nat→Bool) (v:Nat→Value) (w':World):Prop where
 mid:Below W0.heap.size W0 w'
 rJ:∀ i,i < n→l i=true→v i=K i
 xm:l n=true→∃ b cs,v n=.pointer (some ⟨b,0,none⟩)∧W0.heap.size≤b∧aA w' b cs t∧cs.size=7∧(l (n+1)=true→cs=E)
 aX:l (n+1)=true→l n=true
theorem By.ext {W0:World} {n:Nat} {K:Nat→Value} {E:Array Value} {t:TypeId} {l l':Nat→Bool} {v:Nat→Value} {w':World} (h:∀ i,i < n+2→l i=l' i) (H:By W0 n K E t l v w'):By W0 n K E t l' v w' where
 mid:=H.mid
 rJ c hc hl:=H.rJ c hc (by rw[h c (by omega)];exact hl)
 xm hl:=by
  obtain⟨b,cs,h1,h2,h3,h4,h5⟩:=H.xm (by rw[h n (by omega)];exact hl)
  exact⟨b,cs,h1,h2,h3,h4,fun h6=>h5 (by rw[h (n+1) (by omega)];exact h6)⟩
 aX hl:=by rw[←h n (by omega)];exact H.aX (by rw[h (n+1) (by omega)];exact hl)
theorem By.start {W0:World} {n:Nat} {K:Nat→Value} {E:Array Value} {t:TypeId} {v:Nat→Value} {w':World} (h2:Below W0.heap.size W0 w'):By W0 n K E t (fun _=>false) v w' where
 mid:=h2
 rJ c _ h:=by cases h
 xm h:=by cases h
 aX h:=by cases h
theorem By.get {W0:World} {n:Nat} {K:Nat→Value} {E:Array Value} {t:TypeId} {l:Nat→Bool} {v:Nat→Value} {w':World} (i:Nat) (hi:i < n) (H:By W0 n K E t l v w'):By W0 n K E t (aJ l i) (bQ v i (K i)) w' where
 mid:=H.mid
 rJ c hc hl:=by
  unfold bQ
  unfold aJ at hl
  split
  ·rename_i he;rw[he]
  ·rename_i hne;rw[if_neg hne]at hl;exact H.rJ c hc hl
 xm hl:=by
  unfold bQ
  unfold aJ at hl⊢
  rw[if_neg (by omega)]at hl⊢
  rw[if_neg (by omega)]
  exact H.xm hl
 aX hl:=by
  unfold aJ at hl⊢
  rw[if_neg (by omega)]at hl⊢
  exact H.aX hl
theorem By.alloc {W0:World} {n:Nat} {K:Nat→Value} {E:Array Value} {Z:Array Value} {t:TypeId} {l:Nat→Bool} {v:Nat→Value} {w':World} (hZ:Z.size=7) (hl3:l n=false) (H:By W0 n K E t l v w'):
  By W0 n K E t (aJ l n) (bQ v n (.pointer (some ⟨w'.heap.size,0,none⟩))) (w'.alloc (.cells Z t)):=by
 have h0:W0.heap.size≤w'.heap.size:=H.mid.size
 have h6:l (n+1)=false:=by
  cases h:l (n+1)with
  | false=>rfl
  | true=>rw[H.aX h]at hl3;cases hl3
 exact{
  mid:=ah H.mid _
  rJ:=fun c hc hl=>by
   unfold bQ
   unfold aJ at hl
   rw[if_neg (by omega)]at hl⊢
   exact H.rJ c hc hl
  xm:=fun hl=>by
   unfold bQ
   rw[if_pos rfl]
   refine⟨_,Z,rfl,h0,aA.new _ _ _,hZ,fun h=>?_⟩
   unfold aJ at h
   rw[if_neg (by omega)]at h
   rw[h6]at h;cases h
  aX:=fun hl=>by
   unfold aJ at hl⊢
   rw[if_pos rfl] }
theorem By.store {W0:World} {n:Nat} {K:Nat→Value} {E:Array Value} {v0 v1 v2 v3 v4 v5 v6 x:Value} {t:TypeId} {l:Nat→Bool} {v:Nat→Value} {w':World} (b:Nat) (hE:E=#[v0,v1,v2,v3,v4,v5,v6]) (hl3:l n=true) (hv:v n=.pointer (some ⟨b,0,none⟩)) (H:By W0 n K E t l v w'):
  By W0 n K E t (aJ l (n+1)) (bQ v (n+1) x) (Pj w' b v0 v1 v2 v3 v4 v5 v6):=by
 obtain⟨b',cs,h1,h2,h3,h4,-⟩:=H.xm hl3
 rw[hv]at h1
 injection h1 with h1
 injection h1 with h1
 injection h1 with h1
 subst h1
 exact{
  mid:=Vw H.mid h2 _ _ _ _ _ _ _
  rJ:=fun c hc hl=>by
   unfold bQ
   unfold aJ at hl
   rw[if_neg (by omega)]at hl⊢
   exact H.rJ c hc hl
  xm:=fun hl=>by
   unfold bQ
   rw[if_neg (by omega)]
   obtain⟨c0,c1,c2,c3,c4,c5,c6,rfl⟩:=Rt h4
   exact⟨b,_,hv,h2,Vk h3 _ _ _ _ _ _ _,rfl,fun _=>hE.symm⟩
  aX:=fun hl=>by
   unfold aJ
   rw[if_neg (by omega)];exact hl3 }
end Go.Proofs.YtcddlnmcjmhbcaaDoor
-- short
