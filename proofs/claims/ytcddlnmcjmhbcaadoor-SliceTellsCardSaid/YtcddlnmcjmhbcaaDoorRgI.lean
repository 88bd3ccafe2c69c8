/-
  Joined texts: RcW5 RcW6.
-/
import Derived.Test.YtcddlnmcjmhbcaaDoorRgH
import Derived.Test.YtcddlnmcjmhbcaaDoorRcMZ
import Derived.Test.YtcddlnmcjmhbcaaDoorShVc
namespace Go.Proofs.YtcddlnmcjmhbcaaDoor
set_option linter.unusedVariables false
set_option linter.unusedSimpArgs false
open Go Go.RowKit
theorem P6 {k:Int} (h:1≤k∧k≤13):k=1∨k=2∨k=3∨k=4∨k=5∨k=6∨k=7∨k=8∨k=9∨k=10∨k=11∨k=12∨k=13:=by omega
set_option maxRecDepth 100000 in
set_option maxHeartbeats 4000000 in
theorem Py (a:Option Addr) (n cap:Nat) (e:Ev) (T V S:Int) (w:World) (he:jr e) (hN:kL w) (hm:jH e T V S=false):
  Calls Tryd.prog 24 #[.slice a n cap,jL e,.int .i64 T,.int .i64 V,.int .i64 S] w fun e' w'=>e'=.returned (.bool false)∧Below w.heap.size w w':=by
 have HM:=hid (fun(W:World) (hW:Below w.heap.size w W)=>DL e T V S W he (hN.below hW))
 rw[hm]at HM
 obtain⟨kind,th,tx,at_,v,x,why⟩:=e
 clear he hN hm
 unfold jL at*
 dsimp only at*
 have hq:=aA.new w #[.int .u8 kind,.int .i64 th,.int .i64 tx,.int .i64 at_,.int .i64 v,.int .i64 x,.int .u8 why] 49
 have e0:=hq.cell 0 (v:=.int .u8 kind) rfl
 have e1:=hq.cell 1 (v:=.int .i64 th) rfl
 have e2:=hq.cell 2 (v:=.int .i64 tx) rfl
 have e3:=hq.cell 3 (v:=.int .i64 at_) rfl
 have e4:=hq.cell 4 (v:=.int .i64 v) rfl
 have e5:=hq.cell 5 (v:=.int .i64 x) rfl
 have e6:=hq.cell 6 (v:=.int .u8 why) rfl
 clear hq
 go_enter Tryd.func24,Tryd.ntmps24
 go_wp2_with fail
 refine(HM.out _ (ah (af _) _)).mono ?_
 rintro e' w1 ⟨rfl,hb1⟩
 have HB:=hid (ag (ah (af w) (.cells #[.int .u8 kind,.int .i64 th,.int .i64 tx,.int .i64 at_,.int .i64 v,.int .i64 x,.int .u8 why] 49)) hb1)
 clear hb1 e0 e1 e2 e3 e4 e5 e6
 go_wp2_with fail
 go_ret
 exact⟨rfl,HB.out⟩
theorem Jw (a:Option Addr) (l:List Ev) (n cap:Nat) (e:Ev) (T V S:Int) (w:World) (hE:cO w a l) (hn:l.length=n) (hl:n≤1048576) (hcap:n≤cap) (he:jr e) (hN:kL w) (hS:1≤S∧S≤32)
  (hb:∀ q∈l,0≤q.at_∧0≤q.v∧q.v≤1099511627776) (hg:jH e T V S=true→Jk (bC S e.th l.reverse)):
  Calls Tryd.prog 24 #[.slice a n cap,jL e,.int .i64 T,.int .i64 V,.int .i64 S] w fun e' w'=>e'=.returned (.bool (Ce T V S l.reverse e))∧Below w.heap.size w w':=by
 cases hm:jH e T V S with
 | false=>
  have:Ce T V S l.reverse e=false:=by unfold Ce;rw[hm];rfl
  rw[this]
  exact Py a n cap e T V S w he hN hm
 | true=>
  have:Ce T V S l.reverse e=yI S l.reverse e (bC S e.th l.reverse):=by unfold Ce;rw[hm];rfl
  rw[this]
  obtain⟨hk,hth,htx,hv,hat,hSS⟩:=oI hm
  have Nc:e.kind=10→1≤e.why∧e.why≤6:=by
   unfold jH at hm
   simp only[Bool.and_eq_true,decide_eq_true_eq]at hm
   exact hm.1.2.2.2.1
  have G:Uh a l n cap e T V S w:=by
   refine⟨fun W hW=>?_,fun W hW=>?_,fun W hW s=>JD a l n cap s W (hE.below hW) hn hl,fun W hW s=>Dy a l n cap s W (hE.below hW) hn hl hcap,fun W hW=>KE a l n cap W (hE.below hW) hn hl,fun W hW=>Ep a l n cap e.th S W (hE.below hW) hn hl hcap hS (fun q hq=>(hb q hq).1),by omega,hg hm,PZ S e.th l.reverse (fun q hq=>(hb q (List.mem_reverse.1 hq)).2),hS,hat.1,PY S e.th l.reverse (fun q hq=>(hb q (List.mem_reverse.1 hq)).1)⟩
   ·have:=DL e T V S W he (hN.below hW)
    rwa [hm]at this
   ·exact D7 a l n cap e.th S W (hE.below hW) hn hl hS (fun q hq=>(hb q hq).1)
  clear hE hn hl hcap he hN hS hb hg this hm htx hv hat hSS hth
  obtain⟨kind,th,tx,at_,v,x,why⟩:=e
  dsimp only at hk Nc
  rcases P6 hk with rfl | rfl | rfl | rfl | rfl | rfl | rfl | rfl | rfl | rfl | rfl | rfl | rfl
  ·exact Vu a l n cap th tx at_ v x why T V S w G
  ·exact qH a l n cap 2 th tx at_ v x why T V S w G (by omega) (fun h=>absurd h (by decide))
  ·exact qH a l n cap 3 th tx at_ v x why T V S w G (by omega) (fun h=>absurd h (by decide))
  ·exact qH a l n cap 4 th tx at_ v x why T V S w G (by omega) (fun h=>absurd h (by decide))
  ·exact qH a l n cap 5 th tx at_ v x why T V S w G (by omega) (fun h=>absurd h (by decide))
  ·exact qH a l n cap 6 th tx at_ v x why T V S w G (by omega) (fun h=>absurd h (by decide))
  ·exact qH a l n cap 7 th tx at_ v x why T V S w G (by omega) (fun h=>absurd h (by decide))
  ·exact qH a l n cap 8 th tx at_ v x why T V S w G (by omega) (fun h=>absurd h (by decide))
  ·exact qH a l n cap 9 th tx at_ v x why T V S w G (by omega) (fun h=>absurd h (by decide))
  ·exact qH a l n cap 10 th tx at_ v x why T V S w G (by omega) (fun _=>Nc rfl)
  ·exact qH a l n cap 11 th tx at_ v x why T V S w G (by omega) (fun h=>absurd h (by decide))
  ·exact qH a l n cap 12 th tx at_ v x why T V S w G (by omega) (fun h=>absurd h (by decide))
  ·exact qH a l n cap 13 th tx at_ v x why T V S w G (by omega) (fun h=>absurd h (by decide))
set_option maxRecDepth 100000 in
set_option maxHeartbeats 4000000 in
theorem Pq (T V S:Int) (w:World):Calls Tryd.prog 23 #[.int .i64 T,.int .i64 V,.int .i64 S] w fun e w'=>e=.returned (.bool (eY T V S))∧w=w':=by
 have HZ:Hid (eY T V S=(((((decide (0≤T)&&decide (T≤6))&&decide (1≤V))&&decide (V≤32))&&decide (1≤S))&&decide (S≤V))):=hid (by unfold eY;rw[Bool.eq_iff_iff];simp;omega)
 go_enter Tryd.func23,Tryd.ntmps23
 rcases Bool.eq_false_or_eq_true (decide (0≤T))with a1 | a1
 case inr=>go_wp2_with fail;go_ret;exact⟨by rw[HZ.out,a1];rfl,rfl⟩
 rcases Bool.eq_false_or_eq_true (decide (T≤6))with a2 | a2
 case inr=>go_wp2_with fail;go_ret;exact⟨by rw[HZ.out,a1,a2];rfl,rfl⟩
 rcases Bool.eq_false_or_eq_true (decide (1≤V))with a3 | a3
 case inr=>go_wp2_with fail;go_ret;exact⟨by rw[HZ.out,a1,a2,a3];rfl,rfl⟩
 rcases Bool.eq_false_or_eq_true (decide (V≤32))with a4 | a4
 case inr=>go_wp2_with fail;go_ret;exact⟨by rw[HZ.out,a1,a2,a3,a4];rfl,rfl⟩
 rcases Bool.eq_false_or_eq_true (decide (1≤S))with a5 | a5
 case inr=>go_wp2_with fail;go_ret;exact⟨by rw[HZ.out,a1,a2,a3,a4,a5];rfl,rfl⟩
 rcases Bool.eq_false_or_eq_true (decide (S≤V))with a6 | a6
 ·go_wp2_with fail
  go_ret
  exact⟨by rw[HZ.out,a1,a2,a3,a4,a5,a6];rfl,rfl⟩
 ·go_wp2_with fail
  go_ret
  exact⟨by rw[HZ.out,a1,a2,a3,a4,a5,a6];rfl,rfl⟩
theorem Po:∀ (l:List Ev) {s s':Sh},jc s l=some s'→∀ e∈l,0≤e.at_∧0≤e.v∧e.v≤1099511627776:=by
 intro l
 induction l with
 | nil=>intro s s' _ e he;cases he
 | cons x l ih=>
  intro s s' h e he
  unfold jc at h
  cases hs:stepS s x with
  | none=>rw[hs]at h;cases h
  | some q=>
   rw[hs]at h
   rcases List.mem_cons.1 he with rfl | he
   ·unfold stepS at hs
    split at hs
    case isFalse=>cases hs
    rename_i hm
    obtain⟨-,-,-,hv,hat,-⟩:=oI hm
    exact⟨hat.1,hv.1,hv.2⟩
   ·exact ih h e he
theorem Hy {T V S:Int} {l:List Ev} {k:Nat} {s:Sh} (hz:eY T V S=true) (h:Behind T V S l k s) (e:Ev):Ce T V S (l.take k).reverse e=(stepS s e).isSome∧(jH e T V S=true→Jk (bC S e.th (l.take k).reverse)):=by
 obtain⟨h1,h2,h3,h4,h5⟩:=NM hz (r:=(l.take k).reverse) (s:=s) (by rw[List.reverse_reverse];exact h.run)
 have hm:=SG (e:=e) h1 h2
 rw[h3,h4,h5]at hm
 refine⟨hm.symm,fun he=>?_⟩
 obtain⟨-,hth,-⟩:=oI he
 have hg:=Qh h1 h2 (i:=e.th.toNat) (by omega)
 rw[h4,Int.toNat_of_nonneg hth.1]at hg
 exact hg
set_option maxRecDepth 100000 in
set_option maxHeartbeats 4000000 in
theorem uJ (T V S:Int) (a:Option Addr) (l:List Ev) (cap:Nat) (w:World) (hE:cO w a l) (hl:l.length≤1048576) (hcap:l.length≤cap) (hN:kL w):
  Calls Tryd.prog 7 #[oZ T V S a l.length cap] w fun e w'=>e=.returned (.tuple #[.int .i64 (aW T V S l).1,.int .i64 (aW T V S l).2])∧Below w.heap.size w w':=by
 have vK:=hid (Pq T V S)
 have HE:=hid hE
 have HN:=hid hN
 have HL:=hid hl
 have UJ:=hid hcap
 have hq:=aA.new w #[.int .i64 T,.int .i64 V,.int .i64 S,.slice a l.length cap] 24
 have d0:=hq.cell 0 (v:=.int .i64 T) rfl
 have d1:=hq.cell 1 (v:=.int .i64 V) rfl
 have d2:=hq.cell 2 (v:=.int .i64 S) rfl
 have d3:=hq.cell 3 (v:=.slice a l.length cap) rfl
 have HQ:=hid hq
 have HB0:Hid (Below w.heap.size w (w.alloc (.cells #[.int .i64 T,.int .i64 V,.int .i64 S,.slice a l.length cap] 24))):=hid (ah (af _) _)
 have g1:decide ((1048576:Int) < (l.length:Int))=false:=by rw[decide_eq_false_iff_not];omega
 clear hE hN hl hcap hq
 dsimp only[oZ]
 cases hz:eY T V S with
 | false=>
  have HT:Hid (aW T V S l=(0,1)):=hid (xe hz)
  rw[hz]at vK
  clear hz
  go_enter Tryd.func7,Tryd.ntmps7
  go_wp2_with fail
  refine(vK.out _).mono ?_
  rintro e' w1 ⟨rfl,rfl⟩
  go_wp2_with fail
  go_ret2
  rw[HT.out]
  exact⟨rfl,HB0.out⟩
 | true=>
  have HZ:=hid hz
  have HS:Hid (1≤S∧S≤32):=hid (by unfold eY at hz;rw[decide_eq_true_eq]at hz;omega)
  rw[hz]at vK
  clear hz
  go_enter Tryd.func7,Tryd.ntmps7
  go_wp2_with fail
  refine(vK.out _).mono ?_
  rintro e' w1 ⟨rfl,rfl⟩
  go_wp2_with fail
  go_loopw [4] (fun i wr=>∃ (k:Nat) (s:Sh),k≤l.length∧i=.int .i64 (k:Int)∧Hid (Behind T V S l k s)∧Hid (aA wr w.heap.size #[.int .i64 T,.int .i64 V,.int .i64 S,.slice a l.length cap] 24)∧Hid (Below w.heap.size w wr)) (fun i _=>l.length-(intOf i).toNat)
  case atStart=>exact⟨0,_,Nat.zero_le _,rfl,hid (Behind.zero HZ.out l),HQ,HB0⟩
  case round=>
   clear d0 d1 d2 d3
   obtain⟨k,s,hk,rfl,Xe,OZ,fB⟩:=hrel
   have d0:=OZ.out.cell 0 (v:=.int .i64 T) rfl
   have d1:=OZ.out.cell 1 (v:=.int .i64 V) rfl
   have d2:=OZ.out.cell 2 (v:=.int .i64 S) rfl
   have d3:=OZ.out.cell 3 (v:=.slice a l.length cap) rfl
   by_cases hlt:k < l.length
   ·obtain⟨b,o,rfl,hcell⟩:=HE.out.2 (by intro h;rw[h]at hlt;simp at hlt)
    have La:=hid (HE.out.1 l[k] (List.getElem_mem hlt))
    have HST:=hid (fun s' (hs:stepS s l[k]=some s')=>Xe.out.step hlt hs)
    have Jg:=hid (fun(hs:stepS s l[k]=none)=>Xe.out.zD HZ.out HL.out hlt hs)
    have XK:=hid (Hy HZ.out Xe.out l[k])
    have Dc:=hid (fun(W:World) (hW:Below wr.heap.size wr W)=>Jw (some ⟨b,o,none⟩) (l.take k) k cap l[k] T V S W (((HE.out.below fB.out).below hW).take k) (by simp;omega) (by have:=HL.out;omega) (by have:=UJ.out;omega) La.out ((HN.out.below fB.out).below hW) HS.out (Po _ Xe.out.run) XK.out.2)
    rcases iG:l[k]with⟨kind,th,tx,at_,v,x,why⟩
    obtain⟨e0,e1,e2,e3,e4,e5,e6⟩:=cO.seven hcell fB.out hlt iG
    have HC:=hid (And.intro e0 (And.intro e1 (And.intro e2 (And.intro e3 (And.intro e4 (And.intro e5 e6))))))
    rw[iG]at HST Jg XK Dc
    have j1:decide ((k:Int) < (l.length:Int))=true:=by rw[decide_eq_true_iff];omega
    have j2:(0:Int)≤(k:Int):=by omega
    have j3:IntKind.i64.wrap ((k:Int)+1)=(k:Int)+1:=IntWalk.i64_in _ (by have:=HL.out;omega)
    have j4:decide (k < l.length)=true:=decide_eq_true hlt
    have j5:(k:Int)≤(cap:Int):=by have:=UJ.out;omega
    have j6:(k:Int) < (l.length:Int):=by omega
    have bf:=hid hlt
    clear La hcell iG hlt hk e0 e1 e2 e3 e4 e5 e6
    go_wp2_with fail
    unfold jL at Dc
    dsimp only at Dc
    obtain⟨mq,Yu⟩:∃ m:Bool,Ce T V S (l.take k).reverse ⟨kind,th,tx,at_,v,x,why⟩=m:=⟨_,rfl⟩
    obtain⟨nq,hnq⟩:∃ m:Bool,(!mq)=m:=⟨_,rfl⟩
    have HIS:=hid (XK.out.1.symm.trans Yu)
    have ZK:=hid hnq
    rw[Yu]at Dc
    clear Yu hnq d0 d1 d2 d3 XK
    apply aZ (fun qq=>([(.pointer (some ⟨w.heap.size,3,none⟩)),(.slice (some ⟨b,o,none⟩) l.length cap),(.int .i64 (k:Int)),(.slice (some ⟨b,o,none⟩) k cap),(.pointer (some ⟨w.heap.size,3,none⟩)),(.slice (some ⟨b,o,none⟩) l.length cap),(.int .i64 (k:Int)),(.pointer (some ⟨b,o+k*7,none⟩)),(.agg #[.int .u8 kind,.int .i64 th,.int .i64 tx,.int .i64 at_,.int .i64 v,.int .i64 x,.int .u8 why]),(.pointer (some ⟨w.heap.size,0,none⟩)),(.int .i64 T),(.pointer (some ⟨w.heap.size,1,none⟩)),(.int .i64 V),(.pointer (some ⟨w.heap.size,2,none⟩)),(.int .i64 S),(.bool mq),(.bool nq)]:List Value).getD qq undef) (fun w'=>Below wr.heap.size wr w')
    focus (simp[ay,aB,Act.put,List.getD];rfl)
    case hm=>kernel_rfl
    case hd=>kernel_rfl
    case hb=>kernel_rfl
    case iR=>kernel_rfl
    case hsz=>kernel_rfl
    case h0=>exact aj (af _)
    case hstep=>
     refine⟨?_,?_,?_,?_,?_,?_,?_,?_,?_,?_,?_,?_,?_,?_,?_,?_,?_,trivial⟩
     ·refine⟨(fun g b h=>by cases h),fun w' hG hg ρ h1 h2 h3 h4 h5=>?_⟩
      have hG:=hid hG
      have f1:ρ (.tmp 1)=.pointer (some ⟨w.heap.size,0,none⟩):=h5 1 (by kernel_rfl)
      all_goals
       try dsimp only[WF,WT]at*
       clear h4 h5 hg
       unfold aO
       go_simp
       first | exact⟨rfl,hG.out⟩ | exact⟨Or.inr rfl,hG.out⟩ | exact⟨Or.inl rfl,hG.out⟩
     ·refine⟨(fun g b h=>by cases h),fun w' hG hg ρ h1 h2 h3 h4 h5=>?_⟩
      have hG:=hid hG
      have f24:ρ (.tmp 24)=(.pointer (some ⟨w.heap.size,3,none⟩)):=h4 0 24 (by kernel_rfl) (by kernel_rfl)
      have c:=(OZ.out.below hG.out).cell 3 (v:=.slice (some ⟨b,o,none⟩) l.length cap) rfl
      all_goals
       try dsimp only[WF,WT]at*
       clear h4 h5 hg
       unfold aO
       go_simp
       first | exact⟨rfl,hG.out⟩ | exact⟨Or.inr rfl,hG.out⟩ | exact⟨Or.inl rfl,hG.out⟩
     ·refine⟨(fun g b h=>by cases h),fun w' hG hg ρ h1 h2 h3 h4 h5=>?_⟩
      have hG:=hid hG
      have f4:ρ (.tmp 4)=.int .i64 (k:Int):=h5 4 (by kernel_rfl)
      all_goals
       try dsimp only[WF,WT]at*
       clear h4 h5 hg
       unfold aO
       go_simp
       first | exact⟨rfl,hG.out⟩ | exact⟨Or.inr rfl,hG.out⟩ | exact⟨Or.inl rfl,hG.out⟩
     ·refine⟨(fun g b h=>by cases h),fun w' hG hg ρ h1 h2 h3 h4 h5=>?_⟩
      have hG:=hid hG
      have f25:ρ (.tmp 25)=(.slice (some ⟨b,o,none⟩) l.length cap):=h4 1 25 (by kernel_rfl) (by kernel_rfl)
      have f26:ρ (.tmp 26)=(.int .i64 (k:Int)):=h4 2 26 (by kernel_rfl) (by kernel_rfl)
      all_goals
       try dsimp only[WF,WT]at*
       clear h4 h5 hg
       unfold aO
       go_simp
       first | exact⟨rfl,hG.out⟩ | exact⟨Or.inr rfl,hG.out⟩ | exact⟨Or.inl rfl,hG.out⟩
     ·refine⟨(fun g b h=>by cases h),fun w' hG hg ρ h1 h2 h3 h4 h5=>?_⟩
      have hG:=hid hG
      have f1:ρ (.tmp 1)=.pointer (some ⟨w.heap.size,0,none⟩):=h5 1 (by kernel_rfl)
      all_goals
       try dsimp only[WF,WT]at*
       clear h4 h5 hg
       unfold aO
       go_simp
       first | exact⟨rfl,hG.out⟩ | exact⟨Or.inr rfl,hG.out⟩ | exact⟨Or.inl rfl,hG.out⟩
     ·refine⟨(fun g b h=>by cases h),fun w' hG hg ρ h1 h2 h3 h4 h5=>?_⟩
      have hG:=hid hG
      have f28:ρ (.tmp 28)=(.pointer (some ⟨w.heap.size,3,none⟩)):=h4 4 28 (by kernel_rfl) (by kernel_rfl)
      have c:=(OZ.out.below hG.out).cell 3 (v:=.slice (some ⟨b,o,none⟩) l.length cap) rfl
      all_goals
       try dsimp only[WF,WT]at*
       clear h4 h5 hg
       unfold aO
       go_simp
       first | exact⟨rfl,hG.out⟩ | exact⟨Or.inr rfl,hG.out⟩ | exact⟨Or.inl rfl,hG.out⟩
     ·refine⟨(fun g b h=>by cases h),fun w' hG hg ρ h1 h2 h3 h4 h5=>?_⟩
      have hG:=hid hG
      have f4:ρ (.tmp 4)=.int .i64 (k:Int):=h5 4 (by kernel_rfl)
      all_goals
       try dsimp only[WF,WT]at*
       clear h4 h5 hg
       unfold aO
       go_simp
       first | exact⟨rfl,hG.out⟩ | exact⟨Or.inr rfl,hG.out⟩ | exact⟨Or.inl rfl,hG.out⟩
     ·refine⟨(fun g b h=>by cases h),fun w' hG hg ρ h1 h2 h3 h4 h5=>?_⟩
      have hG:=hid hG
      have f29:ρ (.tmp 29)=(.slice (some ⟨b,o,none⟩) l.length cap):=h4 5 29 (by kernel_rfl) (by kernel_rfl)
      have f30:ρ (.tmp 30)=(.int .i64 (k:Int)):=h4 6 30 (by kernel_rfl) (by kernel_rfl)
      all_goals
       try dsimp only[WF,WT]at*
       clear h4 h5 hg
       unfold aO
       go_simp
       first | exact⟨rfl,hG.out⟩ | exact⟨Or.inr rfl,hG.out⟩ | exact⟨Or.inl rfl,hG.out⟩
     ·refine⟨(fun g b h=>by cases h),fun w' hG hg ρ h1 h2 h3 h4 h5=>?_⟩
      have hG:=hid hG
      have f31:ρ (.tmp 31)=(.pointer (some ⟨b,o+k*7,none⟩)):=h4 7 31 (by kernel_rfl) (by kernel_rfl)
      obtain⟨y0,y1,y2,y3,y4,y5,y6⟩:=HC.out
      have c0:=later hG.out y0
      have c1:=later hG.out y1
      have c2:=later hG.out y2
      have c3:=later hG.out y3
      have c4:=later hG.out y4
      have c5:=later hG.out y5
      have c6:=later hG.out y6
      clear y0 y1 y2 y3 y4 y5 y6
      all_goals
       try dsimp only[WF,WT]at*
       clear h4 h5 hg
       unfold aO
       go_simp
       first | exact⟨rfl,hG.out⟩ | exact⟨Or.inr rfl,hG.out⟩ | exact⟨Or.inl rfl,hG.out⟩
     ·refine⟨(fun g b h=>by cases h),fun w' hG hg ρ h1 h2 h3 h4 h5=>?_⟩
      have hG:=hid hG
      have f1:ρ (.tmp 1)=.pointer (some ⟨w.heap.size,0,none⟩):=h5 1 (by kernel_rfl)
      all_goals
       try dsimp only[WF,WT]at*
       clear h4 h5 hg
       unfold aO
       go_simp
       first | exact⟨rfl,hG.out⟩ | exact⟨Or.inr rfl,hG.out⟩ | exact⟨Or.inl rfl,hG.out⟩
     ·refine⟨(fun g b h=>by cases h),fun w' hG hg ρ h1 h2 h3 h4 h5=>?_⟩
      have hG:=hid hG
      have f33:ρ (.tmp 33)=(.pointer (some ⟨w.heap.size,0,none⟩)):=h4 9 33 (by kernel_rfl) (by kernel_rfl)
      have c:=(OZ.out.below hG.out).cell 0 (v:=.int .i64 T) rfl
      all_goals
       try dsimp only[WF,WT]at*
       clear h4 h5 hg
       unfold aO
       go_simp
       first | exact⟨rfl,hG.out⟩ | exact⟨Or.inr rfl,hG.out⟩ | exact⟨Or.inl rfl,hG.out⟩
     ·refine⟨(fun g b h=>by cases h),fun w' hG hg ρ h1 h2 h3 h4 h5=>?_⟩
      have hG:=hid hG
      have f1:ρ (.tmp 1)=.pointer (some ⟨w.heap.size,0,none⟩):=h5 1 (by kernel_rfl)
      all_goals
       try dsimp only[WF,WT]at*
       clear h4 h5 hg
       unfold aO
       go_simp
       first | exact⟨rfl,hG.out⟩ | exact⟨Or.inr rfl,hG.out⟩ | exact⟨Or.inl rfl,hG.out⟩
     ·refine⟨(fun g b h=>by cases h),fun w' hG hg ρ h1 h2 h3 h4 h5=>?_⟩
      have hG:=hid hG
      have f35:ρ (.tmp 35)=(.pointer (some ⟨w.heap.size,1,none⟩)):=h4 11 35 (by kernel_rfl) (by kernel_rfl)
      have c:=(OZ.out.below hG.out).cell 1 (v:=.int .i64 V) rfl
      all_goals
       try dsimp only[WF,WT]at*
       clear h4 h5 hg
       unfold aO
       go_simp
       first | exact⟨rfl,hG.out⟩ | exact⟨Or.inr rfl,hG.out⟩ | exact⟨Or.inl rfl,hG.out⟩
     ·refine⟨(fun g b h=>by cases h),fun w' hG hg ρ h1 h2 h3 h4 h5=>?_⟩
      have hG:=hid hG
      have f1:ρ (.tmp 1)=.pointer (some ⟨w.heap.size,0,none⟩):=h5 1 (by kernel_rfl)
      all_goals
       try dsimp only[WF,WT]at*
       clear h4 h5 hg
       unfold aO
       go_simp
       first | exact⟨rfl,hG.out⟩ | exact⟨Or.inr rfl,hG.out⟩ | exact⟨Or.inl rfl,hG.out⟩
     ·refine⟨(fun g b h=>by cases h),fun w' hG hg ρ h1 h2 h3 h4 h5=>?_⟩
      have hG:=hid hG
      have f37:ρ (.tmp 37)=(.pointer (some ⟨w.heap.size,2,none⟩)):=h4 13 37 (by kernel_rfl) (by kernel_rfl)
      have c:=(OZ.out.below hG.out).cell 2 (v:=.int .i64 S) rfl
      all_goals
       try dsimp only[WF,WT]at*
       clear h4 h5 hg
       unfold aO
       go_simp
       first | exact⟨rfl,hG.out⟩ | exact⟨Or.inr rfl,hG.out⟩ | exact⟨Or.inl rfl,hG.out⟩
     ·refine⟨(fun g b h=>by cases h),fun w' hG hg ρ h1 h2 h3 h4 h5=>?_⟩
      have hG:=hid hG
      have f27:ρ (.tmp 27)=(.slice (some ⟨b,o,none⟩) k cap):=h4 3 27 (by kernel_rfl) (by kernel_rfl)
      have f32:ρ (.tmp 32)=(.agg #[.int .u8 kind,.int .i64 th,.int .i64 tx,.int .i64 at_,.int .i64 v,.int .i64 x,.int .u8 why]):=h4 8 32 (by kernel_rfl) (by kernel_rfl)
      have f34:ρ (.tmp 34)=(.int .i64 T):=h4 10 34 (by kernel_rfl) (by kernel_rfl)
      have f36:ρ (.tmp 36)=(.int .i64 V):=h4 12 36 (by kernel_rfl) (by kernel_rfl)
      have f38:ρ (.tmp 38)=(.int .i64 S):=h4 14 38 (by kernel_rfl) (by kernel_rfl)
      all_goals
       try dsimp only[WF,WT]at*
       clear h4 h5 hg
       unfold aO
       go_simp
       unfold xE
       refine(Dc.out _ hG.out).mono ?_
       rintro e' w1 ⟨rfl,hb⟩
       first | exact⟨_,rfl,rfl,ag hG.out hb⟩ | exact⟨_,rfl,Or.inr rfl,ag hG.out hb⟩
     ·refine⟨(fun g b h=>by cases h),fun w' hG hg ρ h1 h2 h3 h4 h5=>?_⟩
      have hG:=hid hG
      have f39:ρ (.tmp 39)=(.bool mq):=h4 15 39 (by kernel_rfl) (by kernel_rfl)
      all_goals
       try dsimp only[WF,WT]at*
       clear h4 h5 hg
       unfold aO
       go_simp
       exact⟨congrArg Value.bool ZK.out,hG.out⟩
    case hdone=>
     intro w' hG
     have Ox:=hid (OZ.out.below hG)
     have HB2:=hid (ag fB.out hG)
     clear hG
     cases hs:stepS s ⟨kind,th,tx,at_,v,x,why⟩with
     | none=>
      have hm:=HIS.out
      rw[hs]at hm
      subst hm
      have hn:=ZK.out
      subst hn
      have QL:=hid (Jg.out hs)
      clear hs
      go_wp2_with fail
      go_ret2
      rw[QL.out]
      exact⟨rfl,HB2.out⟩
     | some s'=>
      have hm:=HIS.out
      rw[hs]at hm
      subst hm
      have hn:=ZK.out
      subst hn
      have HS2:=hid (HST.out s' hs)
      clear hs
      go_wp2_with fail
      go_roundw
      case rel=>exact⟨k+1,s',bf.out,by go_num,HS2,Ox,HB2⟩
      case measure=>simp[intOf];have:=bf.out;omega
   ·obtain rfl:k=l.length:=by omega
    have j1:decide ((l.length:Int) < (l.length:Int))=false:=by rw[decide_eq_false_iff_not];omega
    have Z8:=hid (Xe.out.zF HZ.out HL.out)
    go_wp2_with fail
    go_ret2
    rw[Z8.out]
    exact⟨rfl,fB.out⟩
end Go.Proofs.YtcddlnmcjmhbcaaDoor
-- short
