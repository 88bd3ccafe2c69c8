/-
  Joined texts: EvR EvR2 EvR3.
-/
import Derived.Test.YtcddlnmcjmhbcaaDoorShE
import Derived.Test.YtcddlnmcjmhbcaaDoorRgG
import Derived.Test.YtcddlnmcjmhbcaaDoorRgB
import Derived.Deep.CutBlock
import Derived.Deep.DeepCutAuto
import Derived.Test.YtcddlnmcjmhbcaaDoorShQ
namespace Go.Proofs.YtcddlnmcjmhbcaaDoor
set_option linter.unusedVariables false
set_option linter.unusedSimpArgs false
open Go Go.RowKit
theorem X7 {w:World} {b:Nat} {c0 c1 c2 c3 c4 c5 c6:Value} {t:TypeId} (h:aA w b #[c0,c1,c2,c3,c4,c5,c6] t) (v0 v1 v2 v3 v4 v5 v6:Value):aA (((((((w.setCell ⟨b,0,none⟩ v0).setCell ⟨b,1,none⟩ v1).setCell ⟨b,2,none⟩ v2).setCell ⟨b,3,none⟩ v3).setCell ⟨b,4,none⟩ v4).setCell ⟨b,5,none⟩ v5).setCell ⟨b,6,none⟩ v6) b #[v0,v1,v2,v3,v4,v5,v6] t:=by
 have:=((((((h.set 0 v0).set 1 v1).set 2 v2).set 3 v3).set 4 v4).set 5 v5).set 6 v6
 simpa using this
theorem Yd {a w:World} {B b:Nat} (h:Below B a w) (hb:B≤b) (v0 v1 v2 v3 v4 v5 v6:Value):Below B a (((((((w.setCell ⟨b,0,none⟩ v0).setCell ⟨b,1,none⟩ v1).setCell ⟨b,2,none⟩ v2).setCell ⟨b,3,none⟩ v3).setCell ⟨b,4,none⟩ v4).setCell ⟨b,5,none⟩ v5).setCell ⟨b,6,none⟩ v6):=
 ((((((h.setCell (p:=⟨b,0,none⟩) hb v0).setCell (p:=⟨b,1,none⟩) hb v1).setCell (p:=⟨b,2,none⟩) hb v2).setCell (p:=⟨b,3,none⟩) hb v3).setCell (p:=⟨b,4,none⟩) hb v4).setCell (p:=⟨b,5,none⟩) hb v5).setCell (p:=⟨b,6,none⟩) hb v6
def FT (l:List UInt8):Value:=.string ⟨l.toArray⟩
def lu:List (List UInt8):=[[],[98,101,103,105,110],[108,111,111,107],[108,111,97,100],[108,111,99,107],[98,117,109,112],[99,104,101,99,107],[99,111,109,109,105,116],[115,116,111,114,101],[102,114,101,101],[97,98,111,114,116],[117,110,100,111],[119,97,105,116],[119,97,107,101]]
def kindName (k:Int):List UInt8:=lu.getD k.toNat []
def uP (k:Int):List UInt8:=if inB k 1 13=true then kindName k else[]
def kL (w:World):Prop:=∀ k,k < 14→w.cell? ⟨1,k,none⟩=some (FT (lu.getD k []))
theorem kL.below {w w':World} (hb:Below w.heap.size w w') (h:kL w):kL w':=fun k hk=>later hb (h k hk)
set_option maxRecDepth 100000 in
set_option maxHeartbeats 4000000 in
theorem Ju (k:Int) (hk:0≤k∧k≤255) (w:World) (hN:kL w):Calls Tryd.prog 86 #[.int .u8 k] w fun e w'=>e=.returned (FT (uP k))∧w=w':=by
 obtain⟨n,rfl⟩:=Int.eq_ofNat_of_zero_le hk.1
 by_cases h:n≤13
 ·have c:=hN n (by omega)
  have HR:Hid (FT (uP (n:Int))=FT (lu.getD n [])):=hid (by
   unfold uP kindName
   by_cases h0:n=0
   ·subst h0;rfl
   ·rw[if_pos (by simp[inB];omega)];rfl)
  have j0:decide ((13:Int) < (n:Int))=false:=decide_eq_false (by omega)
  have j1:(0:Int)≤(n:Int):=by omega
  have j2:(n:Int) < 14:=by omega
  unfold FT at c
  clear hk hN h
  go_enter Tryd.func86,Tryd.ntmps86
  go_wp2_with fail
  go_ret
  rw[HR.out];exact⟨rfl,rfl⟩
 ·have HR:Hid (FT (uP (n:Int))=.string ⟨#[]⟩):=hid (by
   unfold uP
   rw[if_neg (by simp[inB];omega)];rfl)
  have j0:decide ((13:Int) < (n:Int))=true:=decide_eq_true (by omega)
  clear hk hN h
  go_enter Tryd.func86,Tryd.ntmps86
  go_wp2_with fail
  go_ret
  rw[HR.out];exact⟨rfl,rfl⟩
theorem fD.blk {W0 w':World} {b p q m n d:Nat} {x y:Value} {l:Nat→Bool} {cs:Array Value} {t:TypeId} (hne:d≠b) (H:fD W0 b p q x y m n l w') (h:aA W0 d cs t):aA w' d cs t:=by
 rw[H.is]
 split
 ·exact(h.aC ⟨b,p,none⟩ x hne).aC ⟨b,q,none⟩ y hne
 ·split
  ·exact h.aC ⟨b,p,none⟩ x hne
  ·exact h
def Ie (e:Ev) (w:World) (e':Ending) (w':World):Prop:=e'=.returned (.agg #[.int .u8 (aT e).kind,.int .i64 (aT e).th,.int .i64 (aT e).tx,.int .i64 (aT e).at_,.int .i64 (aT e).v,.int .i64 (aT e).x,.int .u8 (aT e).why])∧Below w.heap.size w w'
set_option maxRecDepth 100000 in
set_option maxHeartbeats 8000000 in
theorem Jy (e:Ev) (w:World):Calls Tryd.prog 87 #[jL e] w (Ie e w):=by
 obtain⟨kind,th,tx,at_,v,x,why⟩:=e
 unfold Ie
 dsimp only[jL]
 obtain⟨W3,hW3⟩:∃ W3,W3=((w.alloc (.cells #[.int .u8 kind,.int .i64 th,.int .i64 tx,.int .i64 at_,.int .i64 v,.int .i64 x,.int .u8 why] 49)).alloc (.cells #[.int .u8 0,.int .i64 0,.int .i64 0,.int .i64 0,.int .i64 0,.int .i64 0,.int .u8 0] 49)).alloc (.cells #[.int .u8 kind,.int .i64 th,.int .i64 0,.int .i64 0,.int .i64 0,.int .i64 0,.int .u8 0] 49):=⟨_,rfl⟩
 have Fh:Hid (aA W3 w.heap.size #[.int .u8 kind,.int .i64 th,.int .i64 tx,.int .i64 at_,.int .i64 v,.int .i64 x,.int .u8 why] 49):=hid (by rw[hW3];exact((aA.new _ _ _).alloc _).alloc _)
 have HZ3:Hid (aA W3 (w.heap.size+1) #[.int .u8 0,.int .i64 0,.int .i64 0,.int .i64 0,.int .i64 0,.int .i64 0,.int .u8 0] 49):=hid (by rw[hW3];exact(aA.new' _ _ _ (by rw[World.size_alloc])).alloc _)
 have HD3:Hid (aA W3 (w.heap.size+1+1) #[.int .u8 kind,.int .i64 th,.int .i64 0,.int .i64 0,.int .i64 0,.int .i64 0,.int .u8 0] 49):=hid (by rw[hW3];exact aA.new' _ _ _ (by rw[World.size_alloc,World.size_alloc]))
 have HB3:Hid (Below w.heap.size w W3):=hid (by rw[hW3];exact ah (ah (ah (af _) _) _) _)
 go_enter Tryd.func87,Tryd.ntmps87
 have k0:=Fh.out.cell 0 rfl
 rw[hW3]at k0
 go_upto_block 0 with fail
 rw[←hW3]
 clear hW3 k0
 go_cut [] (fun W=>Hid (aA W (w.heap.size+1+1) #[.int .u8 (aT ⟨kind,th,tx,at_,v,x,why⟩).kind,.int .i64 (aT ⟨kind,th,tx,at_,v,x,why⟩).th,.int .i64 (aT ⟨kind,th,tx,at_,v,x,why⟩).tx,.int .i64 (aT ⟨kind,th,tx,at_,v,x,why⟩).at_,.int .i64 (aT ⟨kind,th,tx,at_,v,x,why⟩).v,.int .i64 (aT ⟨kind,th,tx,at_,v,x,why⟩).x,.int .u8 (aT ⟨kind,th,tx,at_,v,x,why⟩).why] 49)∧Hid (aA W (w.heap.size+1) #[.int .u8 0,.int .i64 0,.int .i64 0,.int .i64 0,.int .i64 0,.int .i64 0,.int .u8 0] 49)∧Hid (Below w.heap.size w W))
 case first=>
  have s3:=Fh.out.cell 3 (v:=.int .i64 at_) rfl
  have s4:=Fh.out.cell 4 (v:=.int .i64 v) rfl
  by_cases k1:kind=1
  ·subst k1
   have uC:Hid (aT ⟨1,th,tx,at_,v,x,why⟩=⟨1,th,tx,0,v,0,0⟩):=hid (by unfold aT;simp)
   clear s3 s4
   go_wp2_with fail
   obtain⟨W4,pF⟩:∃ W,W=W3.drew:=⟨_,rfl⟩
   have HB4:Hid (Below w.heap.size w W4):=hid (by rw[pF];exact aj HB3.out)
   have Ij:=hid (show aA W4 _ _ _ by rw[pF];exact Fh.out.drew)
   have EO:=hid (show aA W4 _ _ _ by rw[pF];exact HZ3.out.drew)
   have HD4:=hid (show aA W4 _ _ _ by rw[pF];exact HD3.out.drew)
   have h00:fD W4 (w.heap.size+1+1) 2 4 (.int .i64 tx) (.int .i64 v) 5 7 (fun _=>false) W3.drew:=by rw[←pF];exact fD.start
   clear pF HB3 Fh HZ3 HD3
   apply iI [.pointer (some ⟨w.heap.size,2,none⟩),.int .i64 tx,.pointer (some ⟨w.heap.size,4,none⟩),.int .i64 v,.pointer (some ⟨(w.heap.size+1+1),2,none⟩),undef,.pointer (some ⟨(w.heap.size+1+1),4,none⟩),undef] (fD W4 (w.heap.size+1+1) 2 4 (.int .i64 tx) (.int .i64 v) 5 7)
   focus (simp[ay,aB,Act.put,List.getD];rfl)
   case hm=>kernel_rfl
   case hd=>kernel_rfl
   case hb=>kernel_rfl
   case kJ=>kernel_rfl
   case hsel=>kernel_rfl
   case iR=>kernel_rfl
   case hgv=>kernel_rfl
   case hsz=>kernel_rfl
   case jf=>exact fun l l' w' h H=>H.ext (k:=8) (by omega) (by omega) h
   case h0=>exact h00
   case hstep=>
    refine⟨?_,?_,?_,?_,?_,?_,?_,?_,trivial⟩
    all_goals (intro l w' hl hdp hJ;rw[if_pos (by kernel_rfl)];intro K Qp hK)
    ·have HJ:=hid hJ;clear hJ;go_simp;exact hK _ (HJ.out.other 0 (by omega) (by omega))
    ·have c0:=(hJ.blk (by omega) Ij.out).cell 2 rfl;have HJ:=hid hJ;clear hJ;go_simp;exact hK _ (HJ.out.other 1 (by omega) (by omega))
    ·have HJ:=hid hJ;clear hJ;go_simp;exact hK _ (HJ.out.other 2 (by omega) (by omega))
    ·have c0:=(hJ.blk (by omega) Ij.out).cell 4 rfl;have HJ:=hid hJ;clear hJ;go_simp;exact hK _ (HJ.out.other 3 (by omega) (by omega))
    ·have HJ:=hid hJ;clear hJ;go_simp;exact hK _ (HJ.out.other 4 (by omega) (by omega))
    ·obtain⟨rfl,hn⟩:=hJ.first (by omega) hl
     have HN:=hid hn
     have c0:=HD4.out.cell 2 rfl
     have f0:=HD4.out.free 2
     clear hJ hn
     go_simp
     exact hK _ HN.out
    ·have HJ:=hid hJ;clear hJ;go_simp;exact hK _ (HJ.out.other 6 (by omega) (by omega))
    ·obtain⟨rfl,hn⟩:=hJ.second (by omega) (hdp 5 (by kernel_rfl)) hl
     have HN:=hid hn
     have c0:=HD4.out.cell 4 rfl
     have f0:=HD4.out.free 4
     have c1:=(HD4.out.set 2 (.int .i64 tx)).cell 4 rfl
     have f1:=(HD4.out.set 2 (.int .i64 tx)).free 4
     clear hJ hn
     go_simp
     exact hK _ HN.out
   case hdone=>
    intro w' hJ
    obtain rfl:=hJ.done
    have Oq:=hid ((EO.out.aC ⟨(w.heap.size+1+1),2,none⟩ (.int .i64 tx) (by dsimp only;omega)).aC ⟨(w.heap.size+1+1),4,none⟩ (.int .i64 v) (by dsimp only;omega))
    have HD5:=hid ((HD4.out.set 2 (.int .i64 tx)).set 4 (.int .i64 v))
    have qN:=hid ((HB4.out.setCell (p:=⟨(w.heap.size+1+1),2,none⟩) (by dsimp only;omega) (.int .i64 tx)).setCell (p:=⟨(w.heap.size+1+1),4,none⟩) (by dsimp only;omega) (.int .i64 v))
    clear hJ h00 Ij EO HD4 HB4
    go_wp2_with fail
    go_meet
    exact⟨hid (by rw[uC.out];simpa using HD5.out),Oq,qN⟩
  by_cases k2:kind=2
  ·subst k2
   have uC:Hid (aT ⟨2,th,tx,at_,v,x,why⟩=⟨2,th,0,at_,v,0,0⟩):=hid (by unfold aT;simp)
   clear s3 s4
   go_wp2_with fail
   obtain⟨W4,pF⟩:∃ W,W=W3.drew:=⟨_,rfl⟩
   have HB4:Hid (Below w.heap.size w W4):=hid (by rw[pF];exact aj HB3.out)
   have Ij:=hid (show aA W4 _ _ _ by rw[pF];exact Fh.out.drew)
   have EO:=hid (show aA W4 _ _ _ by rw[pF];exact HZ3.out.drew)
   have HD4:=hid (show aA W4 _ _ _ by rw[pF];exact HD3.out.drew)
   have h00:fD W4 (w.heap.size+1+1) 3 4 (.int .i64 at_) (.int .i64 v) 5 7 (fun _=>false) W3.drew:=by rw[←pF];exact fD.start
   clear pF HB3 Fh HZ3 HD3
   apply iI [.pointer (some ⟨w.heap.size,3,none⟩),.int .i64 at_,.pointer (some ⟨w.heap.size,4,none⟩),.int .i64 v,.pointer (some ⟨(w.heap.size+1+1),3,none⟩),undef,.pointer (some ⟨(w.heap.size+1+1),4,none⟩),undef] (fD W4 (w.heap.size+1+1) 3 4 (.int .i64 at_) (.int .i64 v) 5 7)
   focus (simp[ay,aB,Act.put,List.getD];rfl)
   case hm=>kernel_rfl
   case hd=>kernel_rfl
   case hb=>kernel_rfl
   case kJ=>kernel_rfl
   case hsel=>kernel_rfl
   case iR=>kernel_rfl
   case hgv=>kernel_rfl
   case hsz=>kernel_rfl
   case jf=>exact fun l l' w' h H=>H.ext (k:=8) (by omega) (by omega) h
   case h0=>exact h00
   case hstep=>
    refine⟨?_,?_,?_,?_,?_,?_,?_,?_,trivial⟩
    all_goals (intro l w' hl hdp hJ;rw[if_pos (by kernel_rfl)];intro K Qp hK)
    ·have HJ:=hid hJ;clear hJ;go_simp;exact hK _ (HJ.out.other 0 (by omega) (by omega))
    ·have c0:=(hJ.blk (by omega) Ij.out).cell 3 rfl;have HJ:=hid hJ;clear hJ;go_simp;exact hK _ (HJ.out.other 1 (by omega) (by omega))
    ·have HJ:=hid hJ;clear hJ;go_simp;exact hK _ (HJ.out.other 2 (by omega) (by omega))
    ·have c0:=(hJ.blk (by omega) Ij.out).cell 4 rfl;have HJ:=hid hJ;clear hJ;go_simp;exact hK _ (HJ.out.other 3 (by omega) (by omega))
    ·have HJ:=hid hJ;clear hJ;go_simp;exact hK _ (HJ.out.other 4 (by omega) (by omega))
    ·obtain⟨rfl,hn⟩:=hJ.first (by omega) hl
     have HN:=hid hn
     have c0:=HD4.out.cell 3 rfl
     have f0:=HD4.out.free 3
     clear hJ hn
     go_simp
     exact hK _ HN.out
    ·have HJ:=hid hJ;clear hJ;go_simp;exact hK _ (HJ.out.other 6 (by omega) (by omega))
    ·obtain⟨rfl,hn⟩:=hJ.second (by omega) (hdp 5 (by kernel_rfl)) hl
     have HN:=hid hn
     have c0:=HD4.out.cell 4 rfl
     have f0:=HD4.out.free 4
     have c1:=(HD4.out.set 3 (.int .i64 at_)).cell 4 rfl
     have f1:=(HD4.out.set 3 (.int .i64 at_)).free 4
     clear hJ hn
     go_simp
     exact hK _ HN.out
   case hdone=>
    intro w' hJ
    obtain rfl:=hJ.done
    have Oq:=hid ((EO.out.aC ⟨(w.heap.size+1+1),3,none⟩ (.int .i64 at_) (by dsimp only;omega)).aC ⟨(w.heap.size+1+1),4,none⟩ (.int .i64 v) (by dsimp only;omega))
    have HD5:=hid ((HD4.out.set 3 (.int .i64 at_)).set 4 (.int .i64 v))
    have qN:=hid ((HB4.out.setCell (p:=⟨(w.heap.size+1+1),3,none⟩) (by dsimp only;omega) (.int .i64 at_)).setCell (p:=⟨(w.heap.size+1+1),4,none⟩) (by dsimp only;omega) (.int .i64 v))
    clear hJ h00 Ij EO HD4 HB4
    go_wp2_with fail
    go_meet
    exact⟨hid (by rw[uC.out];simpa using HD5.out),Oq,qN⟩
  by_cases k3:kind=3∨kind=8
  ·rcases k3 with rfl | rfl
   all_goals (
    have Zj:Hid (aT ⟨3,th,tx,at_,v,x,why⟩=⟨3,th,0,at_,0,x,0⟩):=hid (by unfold aT;simp)
    have Zi:Hid (aT ⟨8,th,tx,at_,v,x,why⟩=⟨8,th,0,at_,0,x,0⟩):=hid (by unfold aT;simp)
    clear s3 s4
    go_wp2_with fail
    obtain⟨W4,pF⟩:∃ W,W=W3.drew:=⟨_,rfl⟩
    have HB4:Hid (Below w.heap.size w W4):=hid (by rw[pF];exact aj HB3.out)
    have Ij:=hid (show aA W4 _ _ _ by rw[pF];exact Fh.out.drew)
    have EO:=hid (show aA W4 _ _ _ by rw[pF];exact HZ3.out.drew)
    have HD4:=hid (show aA W4 _ _ _ by rw[pF];exact HD3.out.drew)
    have h00:fD W4 (w.heap.size+1+1) 3 5 (.int .i64 at_) (.int .i64 x) 5 7 (fun _=>false) W3.drew:=by rw[←pF];exact fD.start
    clear pF HB3 Fh HZ3 HD3
    apply iI [.pointer (some ⟨w.heap.size,3,none⟩),.int .i64 at_,.pointer (some ⟨w.heap.size,5,none⟩),.int .i64 x,.pointer (some ⟨(w.heap.size+1+1),3,none⟩),undef,.pointer (some ⟨(w.heap.size+1+1),5,none⟩),undef] (fD W4 (w.heap.size+1+1) 3 5 (.int .i64 at_) (.int .i64 x) 5 7)
    focus (simp[ay,aB,Act.put,List.getD];rfl)
    case hm=>kernel_rfl
    case hd=>kernel_rfl
    case hb=>kernel_rfl
    case kJ=>kernel_rfl
    case hsel=>kernel_rfl
    case iR=>kernel_rfl
    case hgv=>kernel_rfl
    case hsz=>kernel_rfl
    case jf=>exact fun l l' w' h H=>H.ext (k:=8) (by omega) (by omega) h
    case h0=>exact h00
    case hstep=>
     refine⟨?_,?_,?_,?_,?_,?_,?_,?_,trivial⟩
     all_goals (intro l w' hl hdp hJ;rw[if_pos (by kernel_rfl)];intro K Qp hK)
     ·have HJ:=hid hJ;clear hJ;go_simp;exact hK _ (HJ.out.other 0 (by omega) (by omega))
     ·have c0:=(hJ.blk (by omega) Ij.out).cell 3 rfl;have HJ:=hid hJ;clear hJ;go_simp;exact hK _ (HJ.out.other 1 (by omega) (by omega))
     ·have HJ:=hid hJ;clear hJ;go_simp;exact hK _ (HJ.out.other 2 (by omega) (by omega))
     ·have c0:=(hJ.blk (by omega) Ij.out).cell 5 rfl;have HJ:=hid hJ;clear hJ;go_simp;exact hK _ (HJ.out.other 3 (by omega) (by omega))
     ·have HJ:=hid hJ;clear hJ;go_simp;exact hK _ (HJ.out.other 4 (by omega) (by omega))
     ·obtain⟨rfl,hn⟩:=hJ.first (by omega) hl
      have HN:=hid hn
      have c0:=HD4.out.cell 3 rfl
      have f0:=HD4.out.free 3
      clear hJ hn
      go_simp
      exact hK _ HN.out
     ·have HJ:=hid hJ;clear hJ;go_simp;exact hK _ (HJ.out.other 6 (by omega) (by omega))
     ·obtain⟨rfl,hn⟩:=hJ.second (by omega) (hdp 5 (by kernel_rfl)) hl
      have HN:=hid hn
      have c0:=HD4.out.cell 5 rfl
      have f0:=HD4.out.free 5
      have c1:=(HD4.out.set 3 (.int .i64 at_)).cell 5 rfl
      have f1:=(HD4.out.set 3 (.int .i64 at_)).free 5
      clear hJ hn
      go_simp
      exact hK _ HN.out
    case hdone=>
     intro w' hJ
     obtain rfl:=hJ.done
     have Oq:=hid ((EO.out.aC ⟨(w.heap.size+1+1),3,none⟩ (.int .i64 at_) (by dsimp only;omega)).aC ⟨(w.heap.size+1+1),5,none⟩ (.int .i64 x) (by dsimp only;omega))
     have HD5:=hid ((HD4.out.set 3 (.int .i64 at_)).set 5 (.int .i64 x))
     have qN:=hid ((HB4.out.setCell (p:=⟨(w.heap.size+1+1),3,none⟩) (by dsimp only;omega) (.int .i64 at_)).setCell (p:=⟨(w.heap.size+1+1),5,none⟩) (by dsimp only;omega) (.int .i64 x))
     clear hJ h00 Ij EO HD4 HB4
     go_wp2_with fail
     go_meet
     exact⟨hid (by first | (rw[Zj.out];simpa using HD5.out) | (rw[Zi.out];simpa using HD5.out)),Oq,qN⟩
   )
  by_cases k10:kind=10
  ·subst k10
   have uC:Hid (aT ⟨10,th,tx,at_,v,x,why⟩=⟨10,th,0,at_,0,0,why⟩):=hid (by unfold aT;simp)
   clear s3 s4
   go_wp2_with fail
   obtain⟨W4,pF⟩:∃ W,W=W3.drew:=⟨_,rfl⟩
   have HB4:Hid (Below w.heap.size w W4):=hid (by rw[pF];exact aj HB3.out)
   have Ij:=hid (show aA W4 _ _ _ by rw[pF];exact Fh.out.drew)
   have EO:=hid (show aA W4 _ _ _ by rw[pF];exact HZ3.out.drew)
   have HD4:=hid (show aA W4 _ _ _ by rw[pF];exact HD3.out.drew)
   have h00:fD W4 (w.heap.size+1+1) 6 3 (.int .u8 why) (.int .i64 at_) 5 7 (fun _=>false) W3.drew:=by rw[←pF];exact fD.start
   clear pF HB3 Fh HZ3 HD3
   apply iI [.pointer (some ⟨w.heap.size,6,none⟩),.int .u8 why,.pointer (some ⟨w.heap.size,3,none⟩),.int .i64 at_,.pointer (some ⟨(w.heap.size+1+1),6,none⟩),undef,.pointer (some ⟨(w.heap.size+1+1),3,none⟩),undef] (fD W4 (w.heap.size+1+1) 6 3 (.int .u8 why) (.int .i64 at_) 5 7)
   focus (simp[ay,aB,Act.put,List.getD];rfl)
   case hm=>kernel_rfl
   case hd=>kernel_rfl
   case hb=>kernel_rfl
   case kJ=>kernel_rfl
   case hsel=>kernel_rfl
   case iR=>kernel_rfl
   case hgv=>kernel_rfl
   case hsz=>kernel_rfl
   case jf=>exact fun l l' w' h H=>H.ext (k:=8) (by omega) (by omega) h
   case h0=>exact h00
   case hstep=>
    refine⟨?_,?_,?_,?_,?_,?_,?_,?_,trivial⟩
    all_goals (intro l w' hl hdp hJ;rw[if_pos (by kernel_rfl)];intro K Qp hK)
    ·have HJ:=hid hJ;clear hJ;go_simp;exact hK _ (HJ.out.other 0 (by omega) (by omega))
    ·have c0:=(hJ.blk (by omega) Ij.out).cell 6 rfl;have HJ:=hid hJ;clear hJ;go_simp;exact hK _ (HJ.out.other 1 (by omega) (by omega))
    ·have HJ:=hid hJ;clear hJ;go_simp;exact hK _ (HJ.out.other 2 (by omega) (by omega))
    ·have c0:=(hJ.blk (by omega) Ij.out).cell 3 rfl;have HJ:=hid hJ;clear hJ;go_simp;exact hK _ (HJ.out.other 3 (by omega) (by omega))
    ·have HJ:=hid hJ;clear hJ;go_simp;exact hK _ (HJ.out.other 4 (by omega) (by omega))
    ·obtain⟨rfl,hn⟩:=hJ.first (by omega) hl
     have HN:=hid hn
     have c0:=HD4.out.cell 6 rfl
     have f0:=HD4.out.free 6
     clear hJ hn
     go_simp
     exact hK _ HN.out
    ·have HJ:=hid hJ;clear hJ;go_simp;exact hK _ (HJ.out.other 6 (by omega) (by omega))
    ·obtain⟨rfl,hn⟩:=hJ.second (by omega) (hdp 5 (by kernel_rfl)) hl
     have HN:=hid hn
     have c0:=HD4.out.cell 3 rfl
     have f0:=HD4.out.free 3
     have c1:=(HD4.out.set 6 (.int .u8 why)).cell 3 rfl
     have f1:=(HD4.out.set 6 (.int .u8 why)).free 3
     clear hJ hn
     go_simp
     exact hK _ HN.out
   case hdone=>
    intro w' hJ
    obtain rfl:=hJ.done
    have Oq:=hid ((EO.out.aC ⟨(w.heap.size+1+1),6,none⟩ (.int .u8 why) (by dsimp only;omega)).aC ⟨(w.heap.size+1+1),3,none⟩ (.int .i64 at_) (by dsimp only;omega))
    have HD5:=hid ((HD4.out.set 6 (.int .u8 why)).set 3 (.int .i64 at_))
    have qN:=hid ((HB4.out.setCell (p:=⟨(w.heap.size+1+1),6,none⟩) (by dsimp only;omega) (.int .u8 why)).setCell (p:=⟨(w.heap.size+1+1),3,none⟩) (by dsimp only;omega) (.int .i64 at_))
    clear hJ h00 Ij EO HD4 HB4
    go_wp2_with fail
    go_meet
    exact⟨hid (by rw[uC.out];simpa using HD5.out),Oq,qN⟩
  by_cases k4:kind=4
  ·subst k4
   have uC:Hid (aT ⟨4,th,tx,at_,v,x,why⟩=⟨4,th,0,at_,0,0,0⟩):=hid (by unfold aT;simp)
   have c0:=HD3.out.cell 3 rfl
   have f0:=HD3.out.free 3
   go_wp2_with fail
   go_meet
   exact⟨hid (by rw[uC.out];simpa using HD3.out.set 3 (.int .i64 at_)),hid (HZ3.out.aC ⟨(w.heap.size+1+1),3,none⟩ _ (by dsimp only;omega)),hid (HB3.out.setCell (p:=⟨(w.heap.size+1+1),3,none⟩) (by dsimp only;omega) _)⟩
  by_cases k6:kind=6
  ·subst k6
   have uC:Hid (aT ⟨6,th,tx,at_,v,x,why⟩=⟨6,th,0,at_,0,0,0⟩):=hid (by unfold aT;simp)
   have c0:=HD3.out.cell 3 rfl
   have f0:=HD3.out.free 3
   go_wp2_with fail
   go_meet
   exact⟨hid (by rw[uC.out];simpa using HD3.out.set 3 (.int .i64 at_)),hid (HZ3.out.aC ⟨(w.heap.size+1+1),3,none⟩ _ (by dsimp only;omega)),hid (HB3.out.setCell (p:=⟨(w.heap.size+1+1),3,none⟩) (by dsimp only;omega) _)⟩
  by_cases k9:kind=9
  ·subst k9
   have uC:Hid (aT ⟨9,th,tx,at_,v,x,why⟩=⟨9,th,0,at_,0,0,0⟩):=hid (by unfold aT;simp)
   have c0:=HD3.out.cell 3 rfl
   have f0:=HD3.out.free 3
   go_wp2_with fail
   go_meet
   exact⟨hid (by rw[uC.out];simpa using HD3.out.set 3 (.int .i64 at_)),hid (HZ3.out.aC ⟨(w.heap.size+1+1),3,none⟩ _ (by dsimp only;omega)),hid (HB3.out.setCell (p:=⟨(w.heap.size+1+1),3,none⟩) (by dsimp only;omega) _)⟩
  by_cases k11:kind=11
  ·subst k11
   have uC:Hid (aT ⟨11,th,tx,at_,v,x,why⟩=⟨11,th,0,at_,0,0,0⟩):=hid (by unfold aT;simp)
   have c0:=HD3.out.cell 3 rfl
   have f0:=HD3.out.free 3
   go_wp2_with fail
   go_meet
   exact⟨hid (by rw[uC.out];simpa using HD3.out.set 3 (.int .i64 at_)),hid (HZ3.out.aC ⟨(w.heap.size+1+1),3,none⟩ _ (by dsimp only;omega)),hid (HB3.out.setCell (p:=⟨(w.heap.size+1+1),3,none⟩) (by dsimp only;omega) _)⟩
  by_cases k5:kind=5
  ·subst k5
   have uC:Hid (aT ⟨5,th,tx,at_,v,x,why⟩=⟨5,th,0,0,v,0,0⟩):=hid (by unfold aT;simp)
   have c0:=HD3.out.cell 4 rfl
   have f0:=HD3.out.free 4
   go_wp2_with fail
   go_meet
   exact⟨hid (by rw[uC.out];simpa using HD3.out.set 4 (.int .i64 v)),hid (HZ3.out.aC ⟨(w.heap.size+1+1),4,none⟩ _ (by dsimp only;omega)),hid (HB3.out.setCell (p:=⟨(w.heap.size+1+1),4,none⟩) (by dsimp only;omega) _)⟩
  by_cases k7:kind=7
  ·subst k7
   have uC:Hid (aT ⟨7,th,tx,at_,v,x,why⟩=⟨7,th,0,0,v,0,0⟩):=hid (by unfold aT;simp)
   have c0:=HD3.out.cell 4 rfl
   have f0:=HD3.out.free 4
   go_wp2_with fail
   go_meet
   exact⟨hid (by rw[uC.out];simpa using HD3.out.set 4 (.int .i64 v)),hid (HZ3.out.aC ⟨(w.heap.size+1+1),4,none⟩ _ (by dsimp only;omega)),hid (HB3.out.setCell (p:=⟨(w.heap.size+1+1),4,none⟩) (by dsimp only;omega) _)⟩
  have n1:(kind==1)=false:=beq_eq_false_iff_ne.2 (by omega)
  have n2:(kind==2)=false:=beq_eq_false_iff_ne.2 (by omega)
  have n3:(kind==3)=false:=beq_eq_false_iff_ne.2 (by omega)
  have n8:(kind==8)=false:=beq_eq_false_iff_ne.2 (by omega)
  have n4:(kind==4)=false:=beq_eq_false_iff_ne.2 (by omega)
  have n6:(kind==6)=false:=beq_eq_false_iff_ne.2 (by omega)
  have n9:(kind==9)=false:=beq_eq_false_iff_ne.2 (by omega)
  have n11:(kind==11)=false:=beq_eq_false_iff_ne.2 (by omega)
  have n5:(kind==5)=false:=beq_eq_false_iff_ne.2 (by omega)
  have n7:(kind==7)=false:=beq_eq_false_iff_ne.2 (by omega)
  have n10:(kind==10)=false:=beq_eq_false_iff_ne.2 (by omega)
  have uC:Hid (aT ⟨kind,th,tx,at_,v,x,why⟩=⟨kind,th,0,0,0,0,0⟩):=hid (by unfold aT;simp at n1 n2 n3 n8 n4 n6 n9 n11 n5 n7 n10;simp[n1,n2,n3,n8,n4,n6,n9,n11,n5,n7,n10])
  clear k1 k2 k3 k10 k4 k6 k9 k11 k5 k7
  go_wp2_with fail
  go_meet
  exact⟨hid (by rw[uC.out];exact HD3.out),HZ3,HB3⟩
 obtain⟨HD,HZ,HB⟩:=hcut
 clear Fh HZ3 HD3 HB3
 obtain⟨B,hB⟩:∃ B,aT ⟨kind,th,tx,at_,v,x,why⟩=B:=⟨_,rfl⟩
 rw[hB]at HD
 obtain⟨kd,h',LQ,at',v',x',why'⟩:=B
 have Dv:=hid hB
 clear hB
 dsimp only at HD
 have y0:=HD.out.cell 0 (v:=.int .u8 kd) rfl
 have z0:=HZ.out.free 0
 have t0:=HZ.out.cell 0 (v:=.int .u8 0) rfl
 have y1:=HD.out.cell 1 (v:=.int .i64 h') rfl
 have z1:=HZ.out.free 1
 have t1:=HZ.out.cell 1 (v:=.int .i64 0) rfl
 have y2:=HD.out.cell 2 (v:=.int .i64 LQ) rfl
 have z2:=HZ.out.free 2
 have t2:=HZ.out.cell 2 (v:=.int .i64 0) rfl
 have y3:=HD.out.cell 3 (v:=.int .i64 at') rfl
 have z3:=HZ.out.free 3
 have t3:=HZ.out.cell 3 (v:=.int .i64 0) rfl
 have y4:=HD.out.cell 4 (v:=.int .i64 v') rfl
 have z4:=HZ.out.free 4
 have t4:=HZ.out.cell 4 (v:=.int .i64 0) rfl
 have y5:=HD.out.cell 5 (v:=.int .i64 x') rfl
 have z5:=HZ.out.free 5
 have t5:=HZ.out.cell 5 (v:=.int .i64 0) rfl
 have y6:=HD.out.cell 6 (v:=.int .u8 why') rfl
 have z6:=HZ.out.free 6
 have t6:=HZ.out.cell 6 (v:=.int .u8 0) rfl
 have Jh:=hid (Yd HB.out (b:=w.heap.size+1) (by omega) (.int .u8 kd) (.int .i64 h') (.int .i64 LQ) (.int .i64 at') (.int .i64 v') (.int .i64 x') (.int .u8 why'))
 have Rz:=hid (X7 HZ.out (.int .u8 kd) (.int .i64 h') (.int .i64 LQ) (.int .i64 at') (.int .i64 v') (.int .i64 x') (.int .u8 why'))
 have q0:=Rz.out.cell 0 (v:=.int .u8 kd) rfl
 have q1:=Rz.out.cell 1 (v:=.int .i64 h') rfl
 have q2:=Rz.out.cell 2 (v:=.int .i64 LQ) rfl
 have q3:=Rz.out.cell 3 (v:=.int .i64 at') rfl
 have q4:=Rz.out.cell 4 (v:=.int .i64 v') rfl
 have q5:=Rz.out.cell 5 (v:=.int .i64 x') rfl
 have q6:=Rz.out.cell 6 (v:=.int .u8 why') rfl
 clear HB HZ HD Rz
 go_wp2_with fail
 exact bodyPost_ret (v:=.agg #[.int .u8 kd,.int .i64 h',.int .i64 LQ,.int .i64 at',.int .i64 v',.int .i64 x',.int .u8 why']) (by simp[results,Tryd.results87,go_sem,q0,q1,q2,q3,q4,q5,q6]) rfl ⟨by rw[Dv.out],Jh.out⟩
def Iy (e:Ev) (T:Int):Bool:=((((((((uP e.kind== [])||decide (e.th < 0))||decide (T≤e.th))||!oL (aT e) e)||decide (e.tx < 0))||decide (6≤e.tx))||decide (e.v < 0))||decide (1099511627776 < e.v))||decide (e.at_ < 0)
def IA (e:Ev) (V S:Int):Bool:=if e.kind=3∨e.kind=8 then decide (e.at_ < V)else if e.kind=5 then decide (1≤e.v)else if e.kind=10 then((decide (1≤e.why)&&decide (e.why≤6))&&decide (e.at_ < S))&&(!(e.why==6)||(e.at_==0))else decide (e.at_ < S)
theorem Sj (T V S:Int):kD T V S=!(((((decide (T < 1)||decide (6 < T))||decide (V < 1))||decide (32 < V))||decide (S < 1))||decide (V < S)):=by
 unfold kD
 by_cases h:1≤T∧T≤6∧1≤V∧V≤32∧1≤S∧S≤V
 ·rw[decide_eq_true h]
  simp;omega
 ·rw[decide_eq_false h]
  symm
  simp
  omega
theorem JR (k:Int) (hk:0≤k∧k≤255):(uP k== [])=!inB k 1 13:=by
 unfold uP
 cases hb:inB k 1 13 with
 | false=>rfl
 | true=>
  have h:1≤k∧k≤13:=by simpa[inB]using hb
  obtain⟨n,rfl⟩:=Int.eq_ofNat_of_zero_le hk.1
  have key:∀ a:Fin 14,1≤a.val→(kindName (a.val:Int)== [])=false:=by decide
  rw[if_pos rfl]
  exact key ⟨n,by omega⟩ (by show 1≤n;omega)
theorem Pz (e:Ev) (T V S:Int) (hk:0≤e.kind∧e.kind≤255):jH e T V S=(kD T V S&&(!Iy e T&&IA e V S)):=by
 cases hs:kD T V S with
 | false=>unfold jH;rw[hs];rfl
 | true=>
  have hsz:1≤T∧T≤6∧1≤V∧V≤32∧1≤S∧S≤V:=by simpa[kD]using hs
  rw[Bool.true_and]
  by_cases hb:e=aT e
  ·have he:oL (aT e) e=true:=by rw[←hb];simp[oL]
   rw[Bool.eq_iff_iff]
   unfold Iy jH IA
   rw[he,JR _ hk,hs]
   obtain⟨kind,th,tx,at_,v,x,why⟩:=e
   unfold aT at hb
   dsimp only at hb hk⊢
   have hd:decide (kind=(aT ⟨kind,th,tx,at_,v,x,why⟩).kind∧th=(aT ⟨kind,th,tx,at_,v,x,why⟩).th∧tx=(aT ⟨kind,th,tx,at_,v,x,why⟩).tx∧at_=(aT ⟨kind,th,tx,at_,v,x,why⟩).at_∧v=(aT ⟨kind,th,tx,at_,v,x,why⟩).v∧x=(aT ⟨kind,th,tx,at_,v,x,why⟩).x∧why=(aT ⟨kind,th,tx,at_,v,x,why⟩).why)=true:=by
    rw[decide_eq_true_iff]
    have hb':(⟨kind,th,tx,at_,v,x,why⟩:Ev)=aT ⟨kind,th,tx,at_,v,x,why⟩:=hb
    rw[←hb']
    exact⟨rfl,rfl,rfl,rfl,rfl,rfl,rfl⟩
   rw[hd]
   unfold dV je inB
   dsimp only
   by_cases k5:kind=5
   ·subst k5
    simp at hb⊢
    omega
   by_cases k3:kind=3∨kind=8
   ·have k10:¬ kind=10:=by omega
    simp[k5,k3,k10]
    omega
   by_cases k10:kind=10
   ·subst k10
    by_cases y:why=6
    ·subst y;simp;omega
    ·simp[y];omega
   ·simp[k5,k3,k10]
    omega
  ·have he:oL (aT e) e=false:=by
    unfold oL
    rw[decide_eq_false_iff_not]
    rintro⟨h1,h2,h3,h4,h5,h6,h7⟩
    exact hb (Ev.ext' h1.symm h2.symm h3.symm h4.symm h5.symm h6.symm h7.symm)
   have hm:jH e T V S=false:=by
    unfold jH
    rw[Bool.and_eq_false_iff]
    right
    rw[decide_eq_false_iff_not]
    rintro⟨h1,h2,h3,h4,h5,h6,h7⟩
    exact hb (Ev.ext' h1 h2 h3 h4 h5 h6 h7)
   rw[hm]
   unfold Iy
   rw[he]
   simp
set_option maxRecDepth 100000 in
set_option maxHeartbeats 4000000 in
theorem DL (e:Ev) (T V S:Int) (w:World) (he:jr e) (hN:kL w):
  Calls Tryd.prog 54 #[jL e,.int .i64 T,.int .i64 V,.int .i64 S] w fun e' w'=>e'=.returned (.bool (jH e T V S))∧Below w.heap.size w w':=by
 rw[Pz e T V S he.1]
 obtain⟨kind,th,tx,at_,v,x,why⟩:=e
 have hk:0≤kind∧kind≤255:=he.1
 have HB:Hid (Below w.heap.size w (w.alloc (.cells #[.int .u8 kind,.int .i64 th,.int .i64 tx,.int .i64 at_,.int .i64 v,.int .i64 x,.int .u8 why] 49))):=hid (ah (af _) _)
 have HE:Hid (aA (w.alloc (.cells #[.int .u8 kind,.int .i64 th,.int .i64 tx,.int .i64 at_,.int .i64 v,.int .i64 x,.int .u8 why] 49)) w.heap.size #[.int .u8 kind,.int .i64 th,.int .i64 tx,.int .i64 at_,.int .i64 v,.int .i64 x,.int .u8 why] 49):=hid (aA.new _ _ _)
 have RS:=hid (fun W=>Jy ⟨kind,th,tx,at_,v,x,why⟩ W)
 have QX:=hid (tZ (aT ⟨kind,th,tx,at_,v,x,why⟩) ⟨kind,th,tx,at_,v,x,why⟩)
 unfold Op.equal Op.maxDepth at QX
 have QK:=hid (fun W (hW:Below w.heap.size w W)=>Ju kind hk W (hN.below hW))
 unfold Ie at RS
 dsimp only[jL]at RS⊢
 clear hN he hk
 rw[Sj]
 obtain⟨s0,hs0⟩:∃ s,(((((decide (T < 1)||decide (6 < T))||decide (V < 1))||decide (32 < V))||decide (S < 1))||decide (V < S))=s:=⟨_,rfl⟩
 rw[hs0]
 cases s0
 case true=>
  go_enter Tryd.func54,Tryd.ntmps54
  by_cases a1:T < 1
  ·have a1:=decide_eq_true a1
   go_wp2_with fail
   go_ret
   exact⟨rfl,HB.out⟩
  have a1:=decide_eq_false a1
  by_cases a2:6 < T
  ·have a2:=decide_eq_true a2
   go_wp2_with fail
   go_ret
   exact⟨rfl,HB.out⟩
  have a2:=decide_eq_false a2
  by_cases a3:V < 1
  ·have a3:=decide_eq_true a3
   go_wp2_with fail
   go_ret
   exact⟨rfl,HB.out⟩
  have a3:=decide_eq_false a3
  by_cases a4:32 < V
  ·have a4:=decide_eq_true a4
   go_wp2_with fail
   go_ret
   exact⟨rfl,HB.out⟩
  have a4:=decide_eq_false a4
  by_cases a5:S < 1
  ·have a5:=decide_eq_true a5
   go_wp2_with fail
   go_ret
   exact⟨rfl,HB.out⟩
  have a5:=decide_eq_false a5
  have a6:decide (V < S)=true:=by
   rw[a1,a2,a3,a4,a5]at hs0
   simpa using hs0
  go_wp2_with fail
  go_ret
  exact⟨rfl,HB.out⟩
 case false=>
 simp only[Bool.or_eq_false_iff]at hs0
 obtain⟨⟨⟨⟨⟨a1,a2⟩,a3⟩,a4⟩,a5⟩,a6⟩:=hs0
 rw[Bool.not_false,Bool.true_and]
 generalize hnm:uP kind=nm at QK
 unfold FT at QK
 obtain⟨eb,heb⟩:∃ b,oL (aT ⟨kind,th,tx,at_,v,x,why⟩) ⟨kind,th,tx,at_,v,x,why⟩=b:=⟨_,rfl⟩
 rw[heb]at QX
 obtain⟨s1,Wv⟩:∃ s,Hid ((nm== [])=s):=⟨_,hid rfl⟩
 obtain⟨s2,Y7⟩:∃ s,Hid (s=(s1||decide (th < 0))):=⟨_,hid rfl⟩
 obtain⟨s3,Y6⟩:∃ s,Hid (s=(s2||decide (T≤th))):=⟨_,hid rfl⟩
 obtain⟨s4,Y5⟩:∃ s,Hid (s=(s3||!eb)):=⟨_,hid rfl⟩
 obtain⟨s5,Y4⟩:∃ s,Hid (s=(s4||decide (tx < 0))):=⟨_,hid rfl⟩
 obtain⟨s6,Y3⟩:∃ s,Hid (s=(s5||decide (6≤tx))):=⟨_,hid rfl⟩
 obtain⟨s7,Y2⟩:∃ s,Hid (s=(s6||decide (v < 0))):=⟨_,hid rfl⟩
 obtain⟨s8,Y1⟩:∃ s,Hid (s=(s7||decide (1099511627776 < v))):=⟨_,hid rfl⟩
 obtain⟨s9,Y0⟩:∃ s,Hid (s=(s8||decide (at_ < 0))):=⟨_,hid rfl⟩
 have hrt:Iy ⟨kind,th,tx,at_,v,x,why⟩ T=s9:=by
  rw[Y0.out,Y1.out,Y2.out,Y3.out,Y4.out,Y5.out,Y6.out,Y7.out,←Wv.out,←heb,←hnm]
  rfl
 rw[hrt]
 obtain⟨res,sZ⟩:∃ r,Hid ((!s9&&IA ⟨kind,th,tx,at_,v,x,why⟩ V S)=r):=⟨_,hid rfl⟩
 rw[sZ.out]
 have ZL:=hid (fun W (hW:Below (w.alloc (.cells #[.int .u8 kind,.int .i64 th,.int .i64 tx,.int .i64 at_,.int .i64 v,.int .i64 x,.int .u8 why] 49)).heap.size (w.alloc (.cells #[.int .u8 kind,.int .i64 th,.int .i64 tx,.int .i64 at_,.int .i64 v,.int .i64 x,.int .u8 why] 49)) W)=>QK.out W (ag HB.out hW))
 have HNM:=hid hnm
 have UI:=hid heb
 clear QK hnm heb hrt
 go_enter Tryd.func54,Tryd.ntmps54
 go_wp2_with fail
 clear a1 a2 a3 a4 a5 a6
 generalize w.alloc (.cells #[.int .u8 kind,.int .i64 th,.int .i64 tx,.int .i64 at_,.int .i64 v,.int .i64 x,.int .u8 why] 49)=W1 at HB HE ZL⊢
 apply aZ (fun i=>([(.pointer (some ⟨w.heap.size,0,none⟩)),(.int .u8 kind),(.string ⟨nm.toArray⟩),(.bool s1),(.bool s1),(WF s1 (.pointer (some ⟨w.heap.size,1,none⟩))),(WF s1 (.int .i64 th)),(WF s1 (.bool (decide (th < 0)))),(.bool s2),(.bool s2),(WF s2 (.pointer (some ⟨w.heap.size,1,none⟩))),(WF s2 (.int .i64 th)),(WF s2 (.int .i64 T)),(WF s2 (.bool (decide (T≤th)))),(.bool s3),(.bool s3),(WF s3 (.agg #[.int .u8 kind,.int .i64 th,.int .i64 tx,.int .i64 at_,.int .i64 v,.int .i64 x,.int .u8 why])),(WF s3 (.agg #[.int .u8 (aT ⟨kind,th,tx,at_,v,x,why⟩).kind,.int .i64 (aT ⟨kind,th,tx,at_,v,x,why⟩).th,.int .i64 (aT ⟨kind,th,tx,at_,v,x,why⟩).tx,.int .i64 (aT ⟨kind,th,tx,at_,v,x,why⟩).at_,.int .i64 (aT ⟨kind,th,tx,at_,v,x,why⟩).v,.int .i64 (aT ⟨kind,th,tx,at_,v,x,why⟩).x,.int .u8 (aT ⟨kind,th,tx,at_,v,x,why⟩).why])),(WF s3 (.agg #[.int .u8 kind,.int .i64 th,.int .i64 tx,.int .i64 at_,.int .i64 v,.int .i64 x,.int .u8 why])),(WF s3 (.bool (!eb))),(.bool s4),(.bool s4),(WF s4 (.pointer (some ⟨w.heap.size,2,none⟩))),(WF s4 (.int .i64 tx)),(WF s4 (.bool (decide (tx < 0)))),(.bool s5),(.bool s5),(WF s5 (.pointer (some ⟨w.heap.size,2,none⟩))),(WF s5 (.int .i64 tx)),(WF s5 (.bool (decide (6≤tx)))),(.bool s6),(.bool s6),(WF s6 (.pointer (some ⟨w.heap.size,4,none⟩))),(WF s6 (.int .i64 v)),(WF s6 (.bool (decide (v < 0)))),(.bool s7),(.bool s7),(WF s7 (.pointer (some ⟨w.heap.size,4,none⟩))),(WF s7 (.int .i64 v)),(WF s7 (.bool (decide (1099511627776 < v)))),(.bool s8),(.bool s8),(WF s8 (.pointer (some ⟨w.heap.size,3,none⟩))),(WF s8 (.int .i64 at_)),(WF s8 (.bool (decide (at_ < 0)))),(.bool s9)]:List Value).getD i undef) (fun w'=>Below W1.heap.size W1 w')
 focus (simp[ay,aB,Act.put,List.getD];rfl)
 case hm=>kernel_rfl
 case hd=>kernel_rfl
 case hb=>kernel_rfl
 case iR=>kernel_rfl
 case hsz=>kernel_rfl
 case h0=>exact aj (af _)
 case hstep=>
  refine⟨?_,?_,?_,?_,?_,?_,?_,?_,?_,?_,?_,?_,?_,?_,?_,?_,?_,?_,?_,?_,?_,?_,?_,?_,?_,?_,?_,?_,?_,?_,?_,?_,?_,?_,?_,?_,?_,?_,?_,?_,?_,?_,?_,?_,?_,?_,trivial⟩
  ·refine⟨(fun g b h=>by cases h),fun w' hG hg ρ h1 h2 h3 h4 h5=>?_⟩
   have hG:=hid hG
   have f4:ρ (.tmp 4)=.pointer (some ⟨w.heap.size,0,none⟩):=h5 4 (by kernel_rfl)
   all_goals
    try dsimp only[WF,WT]at*
    clear h4 h5 hg
    unfold aO
    go_simp
    first | exact⟨rfl,hG.out⟩ | exact⟨Or.inr rfl,hG.out⟩ | exact⟨Or.inl rfl,hG.out⟩
  ·refine⟨(fun g b h=>by cases h),fun w' hG hg ρ h1 h2 h3 h4 h5=>?_⟩
   have hG:=hid hG
   have f32:ρ (.tmp 32)=(.pointer (some ⟨w.heap.size,0,none⟩)):=h4 0 32 (by kernel_rfl) (by kernel_rfl)
   have c0:=(HE.out.below hG.out).cell 0 rfl
   all_goals
    try dsimp only[WF,WT]at*
    clear h4 h5 hg
    unfold aO
    go_simp
    first | exact⟨rfl,hG.out⟩ | exact⟨Or.inr rfl,hG.out⟩ | exact⟨Or.inl rfl,hG.out⟩
  ·refine⟨(fun g b h=>by cases h),fun w' hG hg ρ h1 h2 h3 h4 h5=>?_⟩
   have hG:=hid hG
   have f33:ρ (.tmp 33)=(.int .u8 kind):=h4 1 33 (by kernel_rfl) (by kernel_rfl)
   all_goals
    try dsimp only[WF,WT]at*
    clear h4 h5 hg
    unfold aO
    go_simp
    unfold xE
    refine(ZL.out _ hG.out).mono ?_
    rintro e' w1 ⟨rfl,rfl⟩
    first | exact⟨_,rfl,rfl,hG.out⟩ | exact⟨_,rfl,Or.inr rfl,hG.out⟩
  ·refine⟨(fun g b h=>by cases h),fun w' hG hg ρ h1 h2 h3 h4 h5=>?_⟩
   have hG:=hid hG
   have f34:ρ (.tmp 34)=(.string ⟨nm.toArray⟩):=h4 2 34 (by kernel_rfl) (by kernel_rfl)
   have e1:(nm== [])=s1:=Wv.out
   all_goals
    try dsimp only[WF,WT]at*
    clear h4 h5 hg
    unfold aO
    go_simp
    first | exact⟨rfl,hG.out⟩ | exact⟨Or.inr rfl,hG.out⟩ | exact⟨Or.inl rfl,hG.out⟩
  ·refine⟨(fun g b h=>by cases h),fun w' hG hg ρ h1 h2 h3 h4 h5=>?_⟩
   have hG:=hid hG
   have f35:ρ (.tmp 35)=(.bool s1):=h4 3 35 (by kernel_rfl) (by kernel_rfl)
   all_goals
    try dsimp only[WF,WT]at*
    clear h4 h5 hg
    unfold aO
    go_simp
    first | exact⟨rfl,hG.out⟩ | exact⟨Or.inr rfl,hG.out⟩ | exact⟨Or.inl rfl,hG.out⟩
  ·refine⟨(fun g b h=>by
     obtain⟨rfl,rfl⟩:=Prod.mk.inj (Option.some.inj h)
     exact⟨s1,rfl,fun h=>by
      cases s1
      ·first | rfl | exact absurd rfl h
      ·first | rfl | exact absurd rfl h⟩),fun w' hG hg ρ h1 h2 h3 h4 h5=>?_⟩
   have hG:=hid hG
   have hs:Value.bool s1=.bool false:=hg 4 false rfl
   injection hs with hs
   subst hs
   have f4:ρ (.tmp 4)=.pointer (some ⟨w.heap.size,0,none⟩):=h5 4 (by kernel_rfl)
   all_goals
    try dsimp only[WF,WT]at*
    clear h4 h5 hg
    unfold aO
    go_simp
    first | exact⟨rfl,hG.out⟩ | exact⟨Or.inr rfl,hG.out⟩ | exact⟨Or.inl rfl,hG.out⟩
  ·refine⟨(fun g b h=>by
     obtain⟨rfl,rfl⟩:=Prod.mk.inj (Option.some.inj h)
     exact⟨s1,rfl,fun h=>by
      cases s1
      ·first | rfl | exact absurd rfl h
      ·first | rfl | exact absurd rfl h⟩),fun w' hG hg ρ h1 h2 h3 h4 h5=>?_⟩
   have hG:=hid hG
   have hs:Value.bool s1=.bool false:=hg 4 false rfl
   injection hs with hs
   subst hs
   have f37:ρ (.tmp 37)=(WF false (.pointer (some ⟨w.heap.size,1,none⟩))):=h4 5 37 (by kernel_rfl) (by kernel_rfl)
   have c1:=(HE.out.below hG.out).cell 1 rfl
   all_goals
    try dsimp only[WF,WT]at*
    clear h4 h5 hg
    unfold aO
    go_simp
    first | exact⟨rfl,hG.out⟩ | exact⟨Or.inr rfl,hG.out⟩ | exact⟨Or.inl rfl,hG.out⟩
  ·refine⟨(fun g b h=>by
     obtain⟨rfl,rfl⟩:=Prod.mk.inj (Option.some.inj h)
     exact⟨s1,rfl,fun h=>by
      cases s1
      ·first | rfl | exact absurd rfl h
      ·first | rfl | exact absurd rfl h⟩),fun w' hG hg ρ h1 h2 h3 h4 h5=>?_⟩
   have hG:=hid hG
   have hs:Value.bool s1=.bool false:=hg 4 false rfl
   injection hs with hs
   subst hs
   have f38:ρ (.tmp 38)=(WF false (.int .i64 th)):=h4 6 38 (by kernel_rfl) (by kernel_rfl)
   all_goals
    try dsimp only[WF,WT]at*
    clear h4 h5 hg
    unfold aO
    go_simp
    first | exact⟨rfl,hG.out⟩ | exact⟨Or.inr rfl,hG.out⟩ | exact⟨Or.inl rfl,hG.out⟩
  ·refine⟨(fun g b h=>by cases h),fun w' hG hg ρ h1 h2 h3 h4 h5=>?_⟩
   have hG:=hid hG
   have f36:ρ (.tmp 36)=(.bool s1):=h4 4 36 (by kernel_rfl) (by kernel_rfl)
   have f39:ρ (.tmp 39)=(WF s1 (.bool (decide (th < 0)))):=h4 7 39 (by kernel_rfl) (by kernel_rfl)
   obtain rfl:=Y7.out
   cases s1
   all_goals
    try dsimp only[WF,WT]at*
    clear h4 h5 hg
    unfold aO
    go_simp
    first | exact⟨rfl,hG.out⟩ | exact⟨Or.inr rfl,hG.out⟩ | exact⟨Or.inl rfl,hG.out⟩
  ·refine⟨(fun g b h=>by cases h),fun w' hG hg ρ h1 h2 h3 h4 h5=>?_⟩
   have hG:=hid hG
   have f40:ρ (.tmp 40)=(.bool s2):=h4 8 40 (by kernel_rfl) (by kernel_rfl)
   all_goals
    try dsimp only[WF,WT]at*
    clear h4 h5 hg
    unfold aO
    go_simp
    first | exact⟨rfl,hG.out⟩ | exact⟨Or.inr rfl,hG.out⟩ | exact⟨Or.inl rfl,hG.out⟩
  ·refine⟨(fun g b h=>by
     obtain⟨rfl,rfl⟩:=Prod.mk.inj (Option.some.inj h)
     exact⟨s2,rfl,fun h=>by
      cases s2
      ·first | rfl | exact absurd rfl h
      ·first | rfl | exact absurd rfl h⟩),fun w' hG hg ρ h1 h2 h3 h4 h5=>?_⟩
   have hG:=hid hG
   have hs:Value.bool s2=.bool false:=hg 9 false rfl
   injection hs with hs
   subst hs
   have f4:ρ (.tmp 4)=.pointer (some ⟨w.heap.size,0,none⟩):=h5 4 (by kernel_rfl)
   all_goals
    try dsimp only[WF,WT]at*
    clear h4 h5 hg
    unfold aO
    go_simp
    first | exact⟨rfl,hG.out⟩ | exact⟨Or.inr rfl,hG.out⟩ | exact⟨Or.inl rfl,hG.out⟩
  ·refine⟨(fun g b h=>by
     obtain⟨rfl,rfl⟩:=Prod.mk.inj (Option.some.inj h)
     exact⟨s2,rfl,fun h=>by
      cases s2
      ·first | rfl | exact absurd rfl h
      ·first | rfl | exact absurd rfl h⟩),fun w' hG hg ρ h1 h2 h3 h4 h5=>?_⟩
   have hG:=hid hG
   have hs:Value.bool s2=.bool false:=hg 9 false rfl
   injection hs with hs
   subst hs
   have f42:ρ (.tmp 42)=(WF false (.pointer (some ⟨w.heap.size,1,none⟩))):=h4 10 42 (by kernel_rfl) (by kernel_rfl)
   have c1:=(HE.out.below hG.out).cell 1 rfl
   all_goals
    try dsimp only[WF,WT]at*
    clear h4 h5 hg
    unfold aO
    go_simp
    first | exact⟨rfl,hG.out⟩ | exact⟨Or.inr rfl,hG.out⟩ | exact⟨Or.inl rfl,hG.out⟩
  ·refine⟨(fun g b h=>by
     obtain⟨rfl,rfl⟩:=Prod.mk.inj (Option.some.inj h)
     exact⟨s2,rfl,fun h=>by
      cases s2
      ·first | rfl | exact absurd rfl h
      ·first | rfl | exact absurd rfl h⟩),fun w' hG hg ρ h1 h2 h3 h4 h5=>?_⟩
   have hG:=hid hG
   have hs:Value.bool s2=.bool false:=hg 9 false rfl
   injection hs with hs
   subst hs
   have f1:ρ (.tmp 1)=.int .i64 T:=h5 1 (by kernel_rfl)
   all_goals
    try dsimp only[WF,WT]at*
    clear h4 h5 hg
    unfold aO
    go_simp
    first | exact⟨rfl,hG.out⟩ | exact⟨Or.inr rfl,hG.out⟩ | exact⟨Or.inl rfl,hG.out⟩
  ·refine⟨(fun g b h=>by
     obtain⟨rfl,rfl⟩:=Prod.mk.inj (Option.some.inj h)
     exact⟨s2,rfl,fun h=>by
      cases s2
      ·first | rfl | exact absurd rfl h
      ·first | rfl | exact absurd rfl h⟩),fun w' hG hg ρ h1 h2 h3 h4 h5=>?_⟩
   have hG:=hid hG
   have hs:Value.bool s2=.bool false:=hg 9 false rfl
   injection hs with hs
   subst hs
   have f43:ρ (.tmp 43)=(WF false (.int .i64 th)):=h4 11 43 (by kernel_rfl) (by kernel_rfl)
   have f44:ρ (.tmp 44)=(WF false (.int .i64 T)):=h4 12 44 (by kernel_rfl) (by kernel_rfl)
   all_goals
    try dsimp only[WF,WT]at*
    clear h4 h5 hg
    unfold aO
    go_simp
    first | exact⟨rfl,hG.out⟩ | exact⟨Or.inr rfl,hG.out⟩ | exact⟨Or.inl rfl,hG.out⟩
  ·refine⟨(fun g b h=>by cases h),fun w' hG hg ρ h1 h2 h3 h4 h5=>?_⟩
   have hG:=hid hG
   have f41:ρ (.tmp 41)=(.bool s2):=h4 9 41 (by kernel_rfl) (by kernel_rfl)
   have f45:ρ (.tmp 45)=(WF s2 (.bool (decide (T≤th)))):=h4 13 45 (by kernel_rfl) (by kernel_rfl)
   obtain rfl:=Y6.out
   cases s2
   all_goals
    try dsimp only[WF,WT]at*
    clear h4 h5 hg
    unfold aO
    go_simp
    first | exact⟨rfl,hG.out⟩ | exact⟨Or.inr rfl,hG.out⟩ | exact⟨Or.inl rfl,hG.out⟩
  ·refine⟨(fun g b h=>by cases h),fun w' hG hg ρ h1 h2 h3 h4 h5=>?_⟩
   have hG:=hid hG
   have f46:ρ (.tmp 46)=(.bool s3):=h4 14 46 (by kernel_rfl) (by kernel_rfl)
   all_goals
    try dsimp only[WF,WT]at*
    clear h4 h5 hg
    unfold aO
    go_simp
    first | exact⟨rfl,hG.out⟩ | exact⟨Or.inr rfl,hG.out⟩ | exact⟨Or.inl rfl,hG.out⟩
  ·refine⟨(fun g b h=>by
     obtain⟨rfl,rfl⟩:=Prod.mk.inj (Option.some.inj h)
     exact⟨s3,rfl,fun h=>by
      cases s3
      ·first | rfl | exact absurd rfl h
      ·first | rfl | exact absurd rfl h⟩),fun w' hG hg ρ h1 h2 h3 h4 h5=>?_⟩
   have hG:=hid hG
   have hs:Value.bool s3=.bool false:=hg 15 false rfl
   injection hs with hs
   subst hs
   have f4:ρ (.tmp 4)=.pointer (some ⟨w.heap.size,0,none⟩):=h5 4 (by kernel_rfl)
   have c0:=(HE.out.below hG.out).cell 0 rfl
   have c1:=(HE.out.below hG.out).cell 1 rfl
   have c2:=(HE.out.below hG.out).cell 2 rfl
   have c3:=(HE.out.below hG.out).cell 3 rfl
   have c4:=(HE.out.below hG.out).cell 4 rfl
   have c5:=(HE.out.below hG.out).cell 5 rfl
   have c6:=(HE.out.below hG.out).cell 6 rfl
   all_goals
    try dsimp only[WF,WT]at*
    clear h4 h5 hg
    unfold aO
    go_simp
    first | exact⟨rfl,hG.out⟩ | exact⟨Or.inr rfl,hG.out⟩ | exact⟨Or.inl rfl,hG.out⟩
  ·refine⟨(fun g b h=>by
     obtain⟨rfl,rfl⟩:=Prod.mk.inj (Option.some.inj h)
     exact⟨s3,rfl,fun h=>by
      cases s3
      ·first | rfl | exact absurd rfl h
      ·first | rfl | exact absurd rfl h⟩),fun w' hG hg ρ h1 h2 h3 h4 h5=>?_⟩
   have hG:=hid hG
   have hs:Value.bool s3=.bool false:=hg 15 false rfl
   injection hs with hs
   subst hs
   have f48:ρ (.tmp 48)=(WF false (.agg #[.int .u8 kind,.int .i64 th,.int .i64 tx,.int .i64 at_,.int .i64 v,.int .i64 x,.int .u8 why])):=h4 16 48 (by kernel_rfl) (by kernel_rfl)
   all_goals
    try dsimp only[WF,WT]at*
    clear h4 h5 hg
    unfold aO
    go_simp
    unfold xE
    refine(RS.out w').mono ?_
    rintro e' w1 ⟨rfl,hb⟩
    first | exact⟨_,rfl,rfl,ag hG.out hb⟩ | exact⟨_,rfl,Or.inr rfl,ag hG.out hb⟩
  ·refine⟨(fun g b h=>by
     obtain⟨rfl,rfl⟩:=Prod.mk.inj (Option.some.inj h)
     exact⟨s3,rfl,fun h=>by
      cases s3
      ·first | rfl | exact absurd rfl h
      ·first | rfl | exact absurd rfl h⟩),fun w' hG hg ρ h1 h2 h3 h4 h5=>?_⟩
   have hG:=hid hG
   have hs:Value.bool s3=.bool false:=hg 15 false rfl
   injection hs with hs
   subst hs
   have f4:ρ (.tmp 4)=.pointer (some ⟨w.heap.size,0,none⟩):=h5 4 (by kernel_rfl)
   have c0:=(HE.out.below hG.out).cell 0 rfl
   have c1:=(HE.out.below hG.out).cell 1 rfl
   have c2:=(HE.out.below hG.out).cell 2 rfl
   have c3:=(HE.out.below hG.out).cell 3 rfl
   have c4:=(HE.out.below hG.out).cell 4 rfl
   have c5:=(HE.out.below hG.out).cell 5 rfl
   have c6:=(HE.out.below hG.out).cell 6 rfl
   all_goals
    try dsimp only[WF,WT]at*
    clear h4 h5 hg
    unfold aO
    go_simp
    first | exact⟨rfl,hG.out⟩ | exact⟨Or.inr rfl,hG.out⟩ | exact⟨Or.inl rfl,hG.out⟩
  ·refine⟨(fun g b h=>by
     obtain⟨rfl,rfl⟩:=Prod.mk.inj (Option.some.inj h)
     exact⟨s3,rfl,fun h=>by
      cases s3
      ·first | rfl | exact absurd rfl h
      ·first | rfl | exact absurd rfl h⟩),fun w' hG hg ρ h1 h2 h3 h4 h5=>?_⟩
   have hG:=hid hG
   have hs:Value.bool s3=.bool false:=hg 15 false rfl
   injection hs with hs
   subst hs
   have f49:ρ (.tmp 49)=(WF false (.agg #[.int .u8 (aT ⟨kind,th,tx,at_,v,x,why⟩).kind,.int .i64 (aT ⟨kind,th,tx,at_,v,x,why⟩).th,.int .i64 (aT ⟨kind,th,tx,at_,v,x,why⟩).tx,.int .i64 (aT ⟨kind,th,tx,at_,v,x,why⟩).at_,.int .i64 (aT ⟨kind,th,tx,at_,v,x,why⟩).v,.int .i64 (aT ⟨kind,th,tx,at_,v,x,why⟩).x,.int .u8 (aT ⟨kind,th,tx,at_,v,x,why⟩).why])):=h4 17 49 (by kernel_rfl) (by kernel_rfl)
   have f50:ρ (.tmp 50)=(WF false (.agg #[.int .u8 kind,.int .i64 th,.int .i64 tx,.int .i64 at_,.int .i64 v,.int .i64 x,.int .u8 why])):=h4 18 50 (by kernel_rfl) (by kernel_rfl)
   have hcmp:=QX.out
   all_goals
    try dsimp only[WF,WT]at*
    clear h4 h5 hg
    unfold aO
    go_simp
    first | exact⟨rfl,hG.out⟩ | exact⟨Or.inr rfl,hG.out⟩ | exact⟨Or.inl rfl,hG.out⟩
  ·refine⟨(fun g b h=>by cases h),fun w' hG hg ρ h1 h2 h3 h4 h5=>?_⟩
   have hG:=hid hG
   have f47:ρ (.tmp 47)=(.bool s3):=h4 15 47 (by kernel_rfl) (by kernel_rfl)
   have f51:ρ (.tmp 51)=(WF s3 (.bool (!eb))):=h4 19 51 (by kernel_rfl) (by kernel_rfl)
   obtain rfl:=Y5.out
   cases s3
   all_goals
    try dsimp only[WF,WT]at*
    clear h4 h5 hg
    unfold aO
    go_simp
    first | exact⟨rfl,hG.out⟩ | exact⟨Or.inr rfl,hG.out⟩ | exact⟨Or.inl rfl,hG.out⟩
  ·refine⟨(fun g b h=>by cases h),fun w' hG hg ρ h1 h2 h3 h4 h5=>?_⟩
   have hG:=hid hG
   have f52:ρ (.tmp 52)=(.bool s4):=h4 20 52 (by kernel_rfl) (by kernel_rfl)
   all_goals
    try dsimp only[WF,WT]at*
    clear h4 h5 hg
    unfold aO
    go_simp
    first | exact⟨rfl,hG.out⟩ | exact⟨Or.inr rfl,hG.out⟩ | exact⟨Or.inl rfl,hG.out⟩
  ·refine⟨(fun g b h=>by
     obtain⟨rfl,rfl⟩:=Prod.mk.inj (Option.some.inj h)
     exact⟨s4,rfl,fun h=>by
      cases s4
      ·first | rfl | exact absurd rfl h
      ·first | rfl | exact absurd rfl h⟩),fun w' hG hg ρ h1 h2 h3 h4 h5=>?_⟩
   have hG:=hid hG
   have hs:Value.bool s4=.bool false:=hg 21 false rfl
   injection hs with hs
   subst hs
   have f4:ρ (.tmp 4)=.pointer (some ⟨w.heap.size,0,none⟩):=h5 4 (by kernel_rfl)
   all_goals
    try dsimp only[WF,WT]at*
    clear h4 h5 hg
    unfold aO
    go_simp
    first | exact⟨rfl,hG.out⟩ | exact⟨Or.inr rfl,hG.out⟩ | exact⟨Or.inl rfl,hG.out⟩
  ·refine⟨(fun g b h=>by
     obtain⟨rfl,rfl⟩:=Prod.mk.inj (Option.some.inj h)
     exact⟨s4,rfl,fun h=>by
      cases s4
      ·first | rfl | exact absurd rfl h
      ·first | rfl | exact absurd rfl h⟩),fun w' hG hg ρ h1 h2 h3 h4 h5=>?_⟩
   have hG:=hid hG
   have hs:Value.bool s4=.bool false:=hg 21 false rfl
   injection hs with hs
   subst hs
   have f54:ρ (.tmp 54)=(WF false (.pointer (some ⟨w.heap.size,2,none⟩))):=h4 22 54 (by kernel_rfl) (by kernel_rfl)
   have c2:=(HE.out.below hG.out).cell 2 rfl
   all_goals
    try dsimp only[WF,WT]at*
    clear h4 h5 hg
    unfold aO
    go_simp
    first | exact⟨rfl,hG.out⟩ | exact⟨Or.inr rfl,hG.out⟩ | exact⟨Or.inl rfl,hG.out⟩
  ·refine⟨(fun g b h=>by
     obtain⟨rfl,rfl⟩:=Prod.mk.inj (Option.some.inj h)
     exact⟨s4,rfl,fun h=>by
      cases s4
      ·first | rfl | exact absurd rfl h
      ·first | rfl | exact absurd rfl h⟩),fun w' hG hg ρ h1 h2 h3 h4 h5=>?_⟩
   have hG:=hid hG
   have hs:Value.bool s4=.bool false:=hg 21 false rfl
   injection hs with hs
   subst hs
   have f55:ρ (.tmp 55)=(WF false (.int .i64 tx)):=h4 23 55 (by kernel_rfl) (by kernel_rfl)
   all_goals
    try dsimp only[WF,WT]at*
    clear h4 h5 hg
    unfold aO
    go_simp
    first | exact⟨rfl,hG.out⟩ | exact⟨Or.inr rfl,hG.out⟩ | exact⟨Or.inl rfl,hG.out⟩
  ·refine⟨(fun g b h=>by cases h),fun w' hG hg ρ h1 h2 h3 h4 h5=>?_⟩
   have hG:=hid hG
   have f53:ρ (.tmp 53)=(.bool s4):=h4 21 53 (by kernel_rfl) (by kernel_rfl)
   have f56:ρ (.tmp 56)=(WF s4 (.bool (decide (tx < 0)))):=h4 24 56 (by kernel_rfl) (by kernel_rfl)
   obtain rfl:=Y4.out
   cases s4
   all_goals
    try dsimp only[WF,WT]at*
    clear h4 h5 hg
    unfold aO
    go_simp
    first | exact⟨rfl,hG.out⟩ | exact⟨Or.inr rfl,hG.out⟩ | exact⟨Or.inl rfl,hG.out⟩
  ·refine⟨(fun g b h=>by cases h),fun w' hG hg ρ h1 h2 h3 h4 h5=>?_⟩
   have hG:=hid hG
   have f57:ρ (.tmp 57)=(.bool s5):=h4 25 57 (by kernel_rfl) (by kernel_rfl)
   all_goals
    try dsimp only[WF,WT]at*
    clear h4 h5 hg
    unfold aO
    go_simp
    first | exact⟨rfl,hG.out⟩ | exact⟨Or.inr rfl,hG.out⟩ | exact⟨Or.inl rfl,hG.out⟩
  ·refine⟨(fun g b h=>by
     obtain⟨rfl,rfl⟩:=Prod.mk.inj (Option.some.inj h)
     exact⟨s5,rfl,fun h=>by
      cases s5
      ·first | rfl | exact absurd rfl h
      ·first | rfl | exact absurd rfl h⟩),fun w' hG hg ρ h1 h2 h3 h4 h5=>?_⟩
   have hG:=hid hG
   have hs:Value.bool s5=.bool false:=hg 26 false rfl
   injection hs with hs
   subst hs
   have f4:ρ (.tmp 4)=.pointer (some ⟨w.heap.size,0,none⟩):=h5 4 (by kernel_rfl)
   all_goals
    try dsimp only[WF,WT]at*
    clear h4 h5 hg
    unfold aO
    go_simp
    first | exact⟨rfl,hG.out⟩ | exact⟨Or.inr rfl,hG.out⟩ | exact⟨Or.inl rfl,hG.out⟩
  ·refine⟨(fun g b h=>by
     obtain⟨rfl,rfl⟩:=Prod.mk.inj (Option.some.inj h)
     exact⟨s5,rfl,fun h=>by
      cases s5
      ·first | rfl | exact absurd rfl h
      ·first | rfl | exact absurd rfl h⟩),fun w' hG hg ρ h1 h2 h3 h4 h5=>?_⟩
   have hG:=hid hG
   have hs:Value.bool s5=.bool false:=hg 26 false rfl
   injection hs with hs
   subst hs
   have f59:ρ (.tmp 59)=(WF false (.pointer (some ⟨w.heap.size,2,none⟩))):=h4 27 59 (by kernel_rfl) (by kernel_rfl)
   have c2:=(HE.out.below hG.out).cell 2 rfl
   all_goals
    try dsimp only[WF,WT]at*
    clear h4 h5 hg
    unfold aO
    go_simp
    first | exact⟨rfl,hG.out⟩ | exact⟨Or.inr rfl,hG.out⟩ | exact⟨Or.inl rfl,hG.out⟩
  ·refine⟨(fun g b h=>by
     obtain⟨rfl,rfl⟩:=Prod.mk.inj (Option.some.inj h)
     exact⟨s5,rfl,fun h=>by
      cases s5
      ·first | rfl | exact absurd rfl h
      ·first | rfl | exact absurd rfl h⟩),fun w' hG hg ρ h1 h2 h3 h4 h5=>?_⟩
   have hG:=hid hG
   have hs:Value.bool s5=.bool false:=hg 26 false rfl
   injection hs with hs
   subst hs
   have f60:ρ (.tmp 60)=(WF false (.int .i64 tx)):=h4 28 60 (by kernel_rfl) (by kernel_rfl)
   all_goals
    try dsimp only[WF,WT]at*
    clear h4 h5 hg
    unfold aO
    go_simp
    first | exact⟨rfl,hG.out⟩ | exact⟨Or.inr rfl,hG.out⟩ | exact⟨Or.inl rfl,hG.out⟩
  ·refine⟨(fun g b h=>by cases h),fun w' hG hg ρ h1 h2 h3 h4 h5=>?_⟩
   have hG:=hid hG
   have f58:ρ (.tmp 58)=(.bool s5):=h4 26 58 (by kernel_rfl) (by kernel_rfl)
   have f61:ρ (.tmp 61)=(WF s5 (.bool (decide (6≤tx)))):=h4 29 61 (by kernel_rfl) (by kernel_rfl)
   obtain rfl:=Y3.out
   cases s5
   all_goals
    try dsimp only[WF,WT]at*
    clear h4 h5 hg
    unfold aO
    go_simp
    first | exact⟨rfl,hG.out⟩ | exact⟨Or.inr rfl,hG.out⟩ | exact⟨Or.inl rfl,hG.out⟩
  ·refine⟨(fun g b h=>by cases h),fun w' hG hg ρ h1 h2 h3 h4 h5=>?_⟩
   have hG:=hid hG
   have f62:ρ (.tmp 62)=(.bool s6):=h4 30 62 (by kernel_rfl) (by kernel_rfl)
   all_goals
    try dsimp only[WF,WT]at*
    clear h4 h5 hg
    unfold aO
    go_simp
    first | exact⟨rfl,hG.out⟩ | exact⟨Or.inr rfl,hG.out⟩ | exact⟨Or.inl rfl,hG.out⟩
  ·refine⟨(fun g b h=>by
     obtain⟨rfl,rfl⟩:=Prod.mk.inj (Option.some.inj h)
     exact⟨s6,rfl,fun h=>by
      cases s6
      ·first | rfl | exact absurd rfl h
      ·first | rfl | exact absurd rfl h⟩),fun w' hG hg ρ h1 h2 h3 h4 h5=>?_⟩
   have hG:=hid hG
   have hs:Value.bool s6=.bool false:=hg 31 false rfl
   injection hs with hs
   subst hs
   have f4:ρ (.tmp 4)=.pointer (some ⟨w.heap.size,0,none⟩):=h5 4 (by kernel_rfl)
   all_goals
    try dsimp only[WF,WT]at*
    clear h4 h5 hg
    unfold aO
    go_simp
    first | exact⟨rfl,hG.out⟩ | exact⟨Or.inr rfl,hG.out⟩ | exact⟨Or.inl rfl,hG.out⟩
  ·refine⟨(fun g b h=>by
     obtain⟨rfl,rfl⟩:=Prod.mk.inj (Option.some.inj h)
     exact⟨s6,rfl,fun h=>by
      cases s6
      ·first | rfl | exact absurd rfl h
      ·first | rfl | exact absurd rfl h⟩),fun w' hG hg ρ h1 h2 h3 h4 h5=>?_⟩
   have hG:=hid hG
   have hs:Value.bool s6=.bool false:=hg 31 false rfl
   injection hs with hs
   subst hs
   have f64:ρ (.tmp 64)=(WF false (.pointer (some ⟨w.heap.size,4,none⟩))):=h4 32 64 (by kernel_rfl) (by kernel_rfl)
   have c4:=(HE.out.below hG.out).cell 4 rfl
   all_goals
    try dsimp only[WF,WT]at*
    clear h4 h5 hg
    unfold aO
    go_simp
    first | exact⟨rfl,hG.out⟩ | exact⟨Or.inr rfl,hG.out⟩ | exact⟨Or.inl rfl,hG.out⟩
  ·refine⟨(fun g b h=>by
     obtain⟨rfl,rfl⟩:=Prod.mk.inj (Option.some.inj h)
     exact⟨s6,rfl,fun h=>by
      cases s6
      ·first | rfl | exact absurd rfl h
      ·first | rfl | exact absurd rfl h⟩),fun w' hG hg ρ h1 h2 h3 h4 h5=>?_⟩
   have hG:=hid hG
   have hs:Value.bool s6=.bool false:=hg 31 false rfl
   injection hs with hs
   subst hs
   have f65:ρ (.tmp 65)=(WF false (.int .i64 v)):=h4 33 65 (by kernel_rfl) (by kernel_rfl)
   all_goals
    try dsimp only[WF,WT]at*
    clear h4 h5 hg
    unfold aO
    go_simp
    first | exact⟨rfl,hG.out⟩ | exact⟨Or.inr rfl,hG.out⟩ | exact⟨Or.inl rfl,hG.out⟩
  ·refine⟨(fun g b h=>by cases h),fun w' hG hg ρ h1 h2 h3 h4 h5=>?_⟩
   have hG:=hid hG
   have f63:ρ (.tmp 63)=(.bool s6):=h4 31 63 (by kernel_rfl) (by kernel_rfl)
   have f66:ρ (.tmp 66)=(WF s6 (.bool (decide (v < 0)))):=h4 34 66 (by kernel_rfl) (by kernel_rfl)
   obtain rfl:=Y2.out
   cases s6
   all_goals
    try dsimp only[WF,WT]at*
    clear h4 h5 hg
    unfold aO
    go_simp
    first | exact⟨rfl,hG.out⟩ | exact⟨Or.inr rfl,hG.out⟩ | exact⟨Or.inl rfl,hG.out⟩
  ·refine⟨(fun g b h=>by cases h),fun w' hG hg ρ h1 h2 h3 h4 h5=>?_⟩
   have hG:=hid hG
   have f67:ρ (.tmp 67)=(.bool s7):=h4 35 67 (by kernel_rfl) (by kernel_rfl)
   all_goals
    try dsimp only[WF,WT]at*
    clear h4 h5 hg
    unfold aO
    go_simp
    first | exact⟨rfl,hG.out⟩ | exact⟨Or.inr rfl,hG.out⟩ | exact⟨Or.inl rfl,hG.out⟩
  ·refine⟨(fun g b h=>by
     obtain⟨rfl,rfl⟩:=Prod.mk.inj (Option.some.inj h)
     exact⟨s7,rfl,fun h=>by
      cases s7
      ·first | rfl | exact absurd rfl h
      ·first | rfl | exact absurd rfl h⟩),fun w' hG hg ρ h1 h2 h3 h4 h5=>?_⟩
   have hG:=hid hG
   have hs:Value.bool s7=.bool false:=hg 36 false rfl
   injection hs with hs
   subst hs
   have f4:ρ (.tmp 4)=.pointer (some ⟨w.heap.size,0,none⟩):=h5 4 (by kernel_rfl)
   all_goals
    try dsimp only[WF,WT]at*
    clear h4 h5 hg
    unfold aO
    go_simp
    first | exact⟨rfl,hG.out⟩ | exact⟨Or.inr rfl,hG.out⟩ | exact⟨Or.inl rfl,hG.out⟩
  ·refine⟨(fun g b h=>by
     obtain⟨rfl,rfl⟩:=Prod.mk.inj (Option.some.inj h)
     exact⟨s7,rfl,fun h=>by
      cases s7
      ·first | rfl | exact absurd rfl h
      ·first | rfl | exact absurd rfl h⟩),fun w' hG hg ρ h1 h2 h3 h4 h5=>?_⟩
   have hG:=hid hG
   have hs:Value.bool s7=.bool false:=hg 36 false rfl
   injection hs with hs
   subst hs
   have f69:ρ (.tmp 69)=(WF false (.pointer (some ⟨w.heap.size,4,none⟩))):=h4 37 69 (by kernel_rfl) (by kernel_rfl)
   have c4:=(HE.out.below hG.out).cell 4 rfl
   all_goals
    try dsimp only[WF,WT]at*
    clear h4 h5 hg
    unfold aO
    go_simp
    first | exact⟨rfl,hG.out⟩ | exact⟨Or.inr rfl,hG.out⟩ | exact⟨Or.inl rfl,hG.out⟩
  ·refine⟨(fun g b h=>by
     obtain⟨rfl,rfl⟩:=Prod.mk.inj (Option.some.inj h)
     exact⟨s7,rfl,fun h=>by
      cases s7
      ·first | rfl | exact absurd rfl h
      ·first | rfl | exact absurd rfl h⟩),fun w' hG hg ρ h1 h2 h3 h4 h5=>?_⟩
   have hG:=hid hG
   have hs:Value.bool s7=.bool false:=hg 36 false rfl
   injection hs with hs
   subst hs
   have f70:ρ (.tmp 70)=(WF false (.int .i64 v)):=h4 38 70 (by kernel_rfl) (by kernel_rfl)
   all_goals
    try dsimp only[WF,WT]at*
    clear h4 h5 hg
    unfold aO
    go_simp
    first | exact⟨rfl,hG.out⟩ | exact⟨Or.inr rfl,hG.out⟩ | exact⟨Or.inl rfl,hG.out⟩
  ·refine⟨(fun g b h=>by cases h),fun w' hG hg ρ h1 h2 h3 h4 h5=>?_⟩
   have hG:=hid hG
   have f68:ρ (.tmp 68)=(.bool s7):=h4 36 68 (by kernel_rfl) (by kernel_rfl)
   have f71:ρ (.tmp 71)=(WF s7 (.bool (decide (1099511627776 < v)))):=h4 39 71 (by kernel_rfl) (by kernel_rfl)
   obtain rfl:=Y1.out
   cases s7
   all_goals
    try dsimp only[WF,WT]at*
    clear h4 h5 hg
    unfold aO
    go_simp
    first | exact⟨rfl,hG.out⟩ | exact⟨Or.inr rfl,hG.out⟩ | exact⟨Or.inl rfl,hG.out⟩
  ·refine⟨(fun g b h=>by cases h),fun w' hG hg ρ h1 h2 h3 h4 h5=>?_⟩
   have hG:=hid hG
   have f72:ρ (.tmp 72)=(.bool s8):=h4 40 72 (by kernel_rfl) (by kernel_rfl)
   all_goals
    try dsimp only[WF,WT]at*
    clear h4 h5 hg
    unfold aO
    go_simp
    first | exact⟨rfl,hG.out⟩ | exact⟨Or.inr rfl,hG.out⟩ | exact⟨Or.inl rfl,hG.out⟩
  ·refine⟨(fun g b h=>by
     obtain⟨rfl,rfl⟩:=Prod.mk.inj (Option.some.inj h)
     exact⟨s8,rfl,fun h=>by
      cases s8
      ·first | rfl | exact absurd rfl h
      ·first | rfl | exact absurd rfl h⟩),fun w' hG hg ρ h1 h2 h3 h4 h5=>?_⟩
   have hG:=hid hG
   have hs:Value.bool s8=.bool false:=hg 41 false rfl
   injection hs with hs
   subst hs
   have f4:ρ (.tmp 4)=.pointer (some ⟨w.heap.size,0,none⟩):=h5 4 (by kernel_rfl)
   all_goals
    try dsimp only[WF,WT]at*
    clear h4 h5 hg
    unfold aO
    go_simp
    first | exact⟨rfl,hG.out⟩ | exact⟨Or.inr rfl,hG.out⟩ | exact⟨Or.inl rfl,hG.out⟩
  ·refine⟨(fun g b h=>by
     obtain⟨rfl,rfl⟩:=Prod.mk.inj (Option.some.inj h)
     exact⟨s8,rfl,fun h=>by
      cases s8
      ·first | rfl | exact absurd rfl h
      ·first | rfl | exact absurd rfl h⟩),fun w' hG hg ρ h1 h2 h3 h4 h5=>?_⟩
   have hG:=hid hG
   have hs:Value.bool s8=.bool false:=hg 41 false rfl
   injection hs with hs
   subst hs
   have f74:ρ (.tmp 74)=(WF false (.pointer (some ⟨w.heap.size,3,none⟩))):=h4 42 74 (by kernel_rfl) (by kernel_rfl)
   have c3:=(HE.out.below hG.out).cell 3 rfl
   all_goals
    try dsimp only[WF,WT]at*
    clear h4 h5 hg
    unfold aO
    go_simp
    first | exact⟨rfl,hG.out⟩ | exact⟨Or.inr rfl,hG.out⟩ | exact⟨Or.inl rfl,hG.out⟩
  ·refine⟨(fun g b h=>by
     obtain⟨rfl,rfl⟩:=Prod.mk.inj (Option.some.inj h)
     exact⟨s8,rfl,fun h=>by
      cases s8
      ·first | rfl | exact absurd rfl h
      ·first | rfl | exact absurd rfl h⟩),fun w' hG hg ρ h1 h2 h3 h4 h5=>?_⟩
   have hG:=hid hG
   have hs:Value.bool s8=.bool false:=hg 41 false rfl
   injection hs with hs
   subst hs
   have f75:ρ (.tmp 75)=(WF false (.int .i64 at_)):=h4 43 75 (by kernel_rfl) (by kernel_rfl)
   all_goals
    try dsimp only[WF,WT]at*
    clear h4 h5 hg
    unfold aO
    go_simp
    first | exact⟨rfl,hG.out⟩ | exact⟨Or.inr rfl,hG.out⟩ | exact⟨Or.inl rfl,hG.out⟩
  ·refine⟨(fun g b h=>by cases h),fun w' hG hg ρ h1 h2 h3 h4 h5=>?_⟩
   have hG:=hid hG
   have f73:ρ (.tmp 73)=(.bool s8):=h4 41 73 (by kernel_rfl) (by kernel_rfl)
   have f76:ρ (.tmp 76)=(WF s8 (.bool (decide (at_ < 0)))):=h4 44 76 (by kernel_rfl) (by kernel_rfl)
   obtain rfl:=Y0.out
   cases s8
   all_goals
    try dsimp only[WF,WT]at*
    clear h4 h5 hg
    unfold aO
    go_simp
    first | exact⟨rfl,hG.out⟩ | exact⟨Or.inr rfl,hG.out⟩ | exact⟨Or.inl rfl,hG.out⟩
 case hdone=>
  intro w' hG
  have Jh:=hid (ag HB.out hG)
  have WX:=hid (HE.out.below hG)
  clear hG HE HB ZL RS QX HNM UI Wv Y7 Y6 Y5 Y4 Y3 Y2 Y1 Y0
  cases s9
  case true=>
   go_wp2_with fail
   go_ret
   exact⟨by rw[←sZ.out];rfl,Jh.out⟩
  case false=>
  have c0:=WX.out.cell 0 rfl
  have c3:=WX.out.cell 3 rfl
  have c4:=WX.out.cell 4 rfl
  have c6:=WX.out.cell 6 rfl
  have hr:=sZ.out
  rw[Bool.not_false,Bool.true_and]at hr
  clear WX sZ
  unfold IA at hr
  dsimp only at hr
  by_cases k3:kind=3∨kind=8
  ·rw[if_pos k3]at hr
   rcases k3 with rfl | rfl
   ·go_wp2_with fail
    go_ret
    exact⟨by first | rfl | (rw[←hr];first | rfl | simp),Jh.out⟩
   ·go_wp2_with fail
    go_ret
    exact⟨by first | rfl | (rw[←hr];first | rfl | simp),Jh.out⟩
  rw[if_neg k3]at hr
  by_cases k5:kind=5
  ·rw[if_pos k5]at hr
   subst k5
   clear k3
   go_wp2_with fail
   go_ret
   exact⟨by first | rfl | (rw[←hr];first | rfl | simp),Jh.out⟩
  rw[if_neg k5]at hr
  have e3:(kind==3)=false:=beq_eq_false_iff_ne.2 (by omega)
  have e8:(kind==8)=false:=beq_eq_false_iff_ne.2 (by omega)
  have e5:(kind==5)=false:=beq_eq_false_iff_ne.2 k5
  clear k3 k5
  by_cases k10:kind=10
  ·rw[if_pos k10]at hr
   subst k10
   clear e3 e8 e5
   by_cases b1:1≤why
   ·have b1:=decide_eq_true b1
    by_cases b2:why≤6
    ·have b2:=decide_eq_true b2
     by_cases b3:at_ < S
     ·have b3:=decide_eq_true b3
      by_cases b4:why=6
      ·subst b4
       rw[b1,b2,b3]at hr
       go_wp2_with fail
       go_ret
       exact⟨by first | rfl | (rw[←hr];first | rfl | simp),Jh.out⟩
      ·have b4:(why==6)=false:=beq_eq_false_iff_ne.2 b4
       rw[b1,b2,b3,b4]at hr
       go_wp2_with fail
       go_ret
       exact⟨by first | rfl | (rw[←hr];first | rfl | simp),Jh.out⟩
     ·have b3:=decide_eq_false b3
      rw[b1,b2,b3]at hr
      go_wp2_with fail
      go_ret
      exact⟨by first | rfl | (rw[←hr];first | rfl | simp),Jh.out⟩
    ·have b2:=decide_eq_false b2
     rw[b1,b2]at hr
     go_wp2_with fail
     go_ret
     exact⟨by first | rfl | (rw[←hr];first | rfl | simp),Jh.out⟩
   ·have b1:=decide_eq_false b1
    rw[b1]at hr
    go_wp2_with fail
    go_ret
    exact⟨by first | rfl | (rw[←hr];first | rfl | simp),Jh.out⟩
  ·rw[if_neg k10]at hr
   have e10:(kind==10)=false:=beq_eq_false_iff_ne.2 k10
   clear k10
   go_wp2_with fail
   go_ret
   exact⟨by first | rfl | (rw[←hr];first | rfl | simp),Jh.out⟩
end Go.Proofs.YtcddlnmcjmhbcaaDoor
-- short
