/-
  Traces in memory; walks: shape.Check.
-/
import Derived.Test.YtcddlnmcjmhbcaaDoorShT
import Derived.Test.YtcddlnmcjmhbcaaDoorShU
import Derived.Test.YtcddlnmcjmhbcaaDoorShE
import Derived.Test.YtcddlnmcjmhbcaaDoorShCd
namespace Go.Proofs.YtcddlnmcjmhbcaaDoor
set_option linter.unusedVariables false
set_option linter.unusedSimpArgs false
open Go Go.RowKit
def cO (w:World) (a:Option Addr) (l:List Ev):Prop:=
 (∀ e∈l,jr e)∧(l≠[]→∃ b o,a=some ⟨b,o,none⟩∧∀ k (h:k < l.length) j v,(qM l[k])[j]? =some v→w.cell? ⟨b,o+k*7+j,none⟩=some v)
theorem cO.below {w w':World} {a:Option Addr} {l:List Ev} (hb:Below w.heap.size w w') (h:cO w a l):cO w' a l:=
 ⟨h.1,fun hn=>by
  obtain⟨b,o,h1,h2⟩:=h.2 hn
  exact⟨b,o,h1,fun k hk j v hv=>later hb (h2 k hk j v hv)⟩⟩
def oZ (T V S:Int) (a:Option Addr) (n cap:Nat):Value:=.agg #[.int .i64 T,.int .i64 V,.int .i64 S,.slice a n cap]
theorem vV {T V S:Int} (h:eY T V S=true):0≤T∧T≤6∧1≤V∧V≤32∧1≤S∧S≤V:=by simpa[eY]using h
set_option maxRecDepth 100000 in
set_option maxHeartbeats 4000000 in
theorem Hf (T V S:Int) (a:Option Addr) (n cap:Nat) (w:World) (h:eY T V S=false):
  Calls Tryd.prog 6 #[oZ T V S a n cap] w fun e w'=>e=.returned (.tuple #[.int .i64 0,.int .i64 1])∧Below w.heap.size w w':=by
 have HN:=hid (fun W=>PV T V S W (by unfold eY at h;simpa using h))
 clear h
 dsimp only[oZ]
 go_enter Tryd.func6,Tryd.ntmps6
 go_wp2_with fail
 refine(HN.out _).mono ?_
 rintro e' w1 ⟨rfl,rfl⟩
 go_wp2_with fail
 go_ret2
 exact⟨rfl,by repeat (first | assumption | exact af _ | refine aj ?_ | refine ah ?_ _ | refine ag ?_ (by assumption))⟩
set_option maxRecDepth 100000 in
set_option maxHeartbeats 4000000 in
theorem Ew (T V S:Nat) (a:Option Addr) (n cap:Nat) (w:World) (h:eY T V S=true) (hn:1048576 < n):
  Calls Tryd.prog 6 #[oZ T V S a n cap] w fun e w'=>e=.returned (.tuple #[.int .i64 0,.int .i64 40])∧Below w.heap.size w w':=by
 have h':=vV h
 have HN:=hid (fun W=>MH T V S W (by omega) (by omega) (by omega) (by omega) (by omega))
 have g1:decide ((1048576:Int) < (n:Int))=true:=by rw[decide_eq_true_iff];omega
 clear h h' hn
 dsimp only[oZ]
 go_enter Tryd.func6,Tryd.ntmps6
 go_wp2_with fail
 refine(HN.out _).mono ?_
 rintro e' w1 ⟨c,tb,sb,b1,b2,b3,rfl,hck,hb⟩
 have d0:=later hb ((aA.new w #[.int .i64 (T:Int),.int .i64 (V:Int),.int .i64 (S:Int),.slice a n cap] 24).cell 3 rfl)
 have HB:Below w.heap.size w w1:=ag (ah (af _) _) hb
 clear hck
 go_wp2_with fail
 go_ret2
 exact⟨rfl,HB⟩
set_option maxRecDepth 100000 in
set_option maxHeartbeats 2000000 in
theorem Hg (T V S:Nat) (a:Option Addr) (l:List Ev) (cap:Nat) (w:World) (hz:eY T V S=true) (hE:cO w a l) (hl:l.length≤1048576) (hK:bn w) (hT:gJ w)
  (hnx:∀ (W:World) (c tb sb ev:Nat) (s:Sh),fK W c tb sb s ev→Wf s→(∀ i,i < s.aN.length→(s.aN.getD i Th.zero).aP≤1048576)→bn W→gJ W→ev < 1048576→∀ e,jr e→Calls Tryd.prog 22 #[.pointer (some ⟨c,0,none⟩),jL e] W (Bl W c tb sb s ev (stepS s e))):
  Calls Tryd.prog 6 #[oZ T V S a l.length cap] w fun e w'=>e=.returned (.tuple #[.int .i64 (aW T V S l).1,.int .i64 (aW T V S l).2])∧Below w.heap.size w w':=by
 have h':=vV hz
 have HN:=hid (fun W=>MH T V S W (by omega) (by omega) (by omega) (by omega) (by omega))
 have g1:decide ((1048576:Int) < (l.length:Int))=false:=by rw[decide_eq_false_iff_not];omega
 have HE:=hid hE
 have HKT:=hid (And.intro hK hT)
 have HL:=hid hl
 have HZ:=hid hz
 have Fj:=hid hnx
 clear h' hE hl hK hT hz hnx
 dsimp only[oZ]
 go_enter Tryd.func6,Tryd.ntmps6
 go_wp2_with fail
 refine(HN.out _).mono ?_
 rintro e' w1 ⟨c,tb,sb,b1,b2,b3,rfl,hck,hb⟩
 have d0:=later hb ((aA.new w #[.int .i64 (T:Int),.int .i64 (V:Int),.int .i64 (S:Int),.slice a l.length cap] 24).cell 3 rfl)
 have HB:Hid (Below w.heap.size w w1):=hid (ag (ah (af _) _) hb)
 have HB1:Hid (w.heap.size < c∧w.heap.size < tb∧w.heap.size < sb):=hid (by simp only[World.alloc,Array.size_push]at b1 b2 b3;omega)
 have HC:=hid hck
 clear hck hb b1 b2 b3
 go_wp2_with fail
 go_loopw [30] (fun i wr=>∃ (k:Nat) (s:Sh),k≤l.length∧i=.int .i64 (k:Int)∧Hid (Behind T V S l k s)∧Hid (fK wr c tb sb s k)∧Hid (Below w.heap.size w wr)∧wr.cell? ⟨w.heap.size,3,none⟩=some (.slice a l.length cap)) (fun i _=>l.length-(intOf i).toNat)
 case atStart=>exact⟨0,_,Nat.zero_le _,rfl,hid (Behind.zero HZ.out l),HC,HB,d0⟩
 case round=>
  obtain⟨k,s,hkl,rfl,HS,uG,fB,d0⟩:=hrel
  have uA:=hid hkl
  by_cases hlt:k < l.length
  ·have j1:decide ((k:Int) < (l.length:Int))=true:=by rw[decide_eq_true_iff];omega
   have j2:(0:Int)≤(k:Int):=by omega
   have j3:IntKind.i64.wrap ((k:Int)+1)=(k:Int)+1:=IntWalk.i64_in _ (by have:=HL.out;omega)
   have j4:decide (k < l.length)=true:=by rw[decide_eq_true_iff];omega
   obtain⟨b,o,rfl,hcell⟩:=HE.out.2 (by intro h;rw[h]at hlt;simp at hlt)
   have La:=hid (HE.out.1 l[k] (List.getElem_mem hlt))
   have HST:=hid (fun s' (hs:stepS s l[k]=some s')=>HS.out.step hlt hs)
   have Jg:=hid (fun(hs:stepS s l[k]=none)=>HS.out.zD HZ.out HL.out hlt hs)
   rcases iG:l[k]with⟨kind,th,tx,at_,v,x,why⟩
   have e0:=later fB.out (hcell k hlt 0 (.int .u8 kind) (by rw[iG];rfl))
   have e1:=later fB.out (hcell k hlt 1 (.int .i64 th) (by rw[iG];rfl))
   have e2:=later fB.out (hcell k hlt 2 (.int .i64 tx) (by rw[iG];rfl))
   have e3:=later fB.out (hcell k hlt 3 (.int .i64 at_) (by rw[iG];rfl))
   have e4:=later fB.out (hcell k hlt 4 (.int .i64 v) (by rw[iG];rfl))
   have e5:=later fB.out (hcell k hlt 5 (.int .i64 x) (by rw[iG];rfl))
   have e6:=later fB.out (hcell k hlt 6 (.int .u8 why) (by rw[iG];rfl))
   rw[Nat.add_zero]at e0
   rw[iG]at La HST Jg
   have bf:=hid hlt
   clear hcell iG hlt hkl
   go_wp2_with fail
   have HA:Hid (Below wr.heap.size wr (wr.alloc (.cells #[.int .u8 kind,.int .i64 th,.int .i64 tx,.int .i64 at_,.int .i64 v,.int .i64 x,.int .u8 why] 49))):=hid (ah (af _) _)
   refine(Fj.out _ c tb sb k s (aY.below uG.out HA.out) HS.out.wf (fun i hi=>by have:=HS.out.cm i hi;have:=bf.out;have:=HL.out;omega) ((HKT.out.1.below fB.out).below HA.out) ((HKT.out.2.below fB.out).below HA.out) (by have:=bf.out;have:=HL.out;omega) ⟨kind,th,tx,at_,v,x,why⟩ La.out).mono ?_
   rintro e' w2 hp
   have hbt:∀ W',Turn [c,tb,sb] (wr.alloc (.cells #[.int .u8 kind,.int .i64 th,.int .i64 tx,.int .i64 at_,.int .i64 v,.int .i64 x,.int .u8 why] 49)) W'→Below w.heap.size w W'∧W'.cell? ⟨w.heap.size,3,none⟩=some (.slice (some ⟨b,o,none⟩) l.length cap):=by
    intro W' ht
    obtain⟨h1,h2,h3⟩:=HB1.out
    refine⟨(ag fB.out HA.out).trans (ht.below ?_ (Nat.le_trans fB.out.size HA.out.size)),ht.cell ?_ (aG d0)⟩
    ·intro y hy;simp only[List.mem_cons,List.not_mem_nil,or_false]at hy;rcases hy with rfl | rfl | rfl <;> omega
    ·simp only[List.mem_cons,List.not_mem_nil,or_false];omega
   have RP:=hid hbt
   clear hbt d0 e0 e1 e2 e3 e4 e5 e6
   rcases hp with⟨s',hs,rfl,hck,ht⟩ | ⟨hs,rfl,hck,ht⟩
   ·have ZY:=hid hck
    have HT2:=hid (RP.out _ ht)
    have HS2:=hid (HST.out s' hs)
    clear hck ht hs
    go_wp2_with fail
    go_roundw
    case rel=>exact⟨k+1,s',by have:=bf.out;omega,by simp,HS2,ZY,hid HT2.out.1,HT2.out.2⟩
    case measure=>have:=bf.out;simp[intOf];omega
   ·have HT2:=hid (RP.out _ ht)
    have QL:=hid (Jg.out hs)
    clear hck ht hs
    go_wp2_with fail
    go_ret2
    rw[QL.out]
    exact⟨rfl,HT2.out.1⟩
  ·obtain rfl:k=l.length:=by omega
   have j1:decide ((l.length:Int) < (l.length:Int))=false:=by rw[decide_eq_false_iff_not];omega
   have j4:decide (l.length < l.length)=false:=by rw[decide_eq_false_iff_not];omega
   have Z8:=hid (HS.out.zF HZ.out HL.out)
   go_wp2_with fail
   go_ret2
   rw[Z8.out]
   exact⟨rfl,fB.out⟩
theorem check_any (T V S:Int) (a:Option Addr) (l:List Ev) (cap:Nat) (w:World) (hE:cO w a l) (hK:bn w) (hT:gJ w)
  (hnx:∀ (W:World) (c tb sb ev:Nat) (s:Sh),fK W c tb sb s ev→Wf s→(∀ i,i < s.aN.length→(s.aN.getD i Th.zero).aP≤1048576)→bn W→gJ W→ev < 1048576→∀ e,jr e→Calls Tryd.prog 22 #[.pointer (some ⟨c,0,none⟩),jL e] W (Bl W c tb sb s ev (stepS s e))):
  Calls Tryd.prog 6 #[oZ T V S a l.length cap] w fun e w'=>e=.returned (.tuple #[.int .i64 (aW T V S l).1,.int .i64 (aW T V S l).2])∧Below w.heap.size w w':=by
 cases hz:eY T V S with
 | false=>rw[xe hz];exact Hf T V S a _ cap w hz
 | true=>
  obtain⟨h1,h2,h3,h4,h5,h6⟩:=vV hz
  obtain⟨T,rfl⟩:=Int.eq_ofNat_of_zero_le h1
  obtain⟨V,rfl⟩:=Int.eq_ofNat_of_zero_le (show 0≤V by omega)
  obtain⟨S,rfl⟩:=Int.eq_ofNat_of_zero_le (show 0≤S by omega)
  by_cases hl:1048576 < l.length
  ·rw[CS hz hl];exact Ew T V S a _ cap w hz hl
  ·exact Hg T V S a l cap w hz hE (by omega) hK hT hnx
end Go.Proofs.YtcddlnmcjmhbcaaDoor
-- short
