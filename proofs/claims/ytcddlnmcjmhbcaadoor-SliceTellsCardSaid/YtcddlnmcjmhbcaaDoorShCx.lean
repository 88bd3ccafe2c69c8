/-
  The checker; walks: Next, at any Kind, whatever comes of it.
-/
import Derived.Test.YtcddlnmcjmhbcaaDoorShN
import Derived.Test.YtcddlnmcjmhbcaaDoorShCd
namespace Go.Proofs.YtcddlnmcjmhbcaaDoor
set_option linter.unusedVariables false
set_option linter.unusedSimpArgs false
open Go Go.RowKit
section
variable {w:World} {c tb sb:Nat} {s:Sh} {ev:Nat}
set_option maxRecDepth 100000 in
set_option maxHeartbeats 4000000 in
theorem gX (kd:Nat) (F:FuncId) (hkd:kd < 14) (hEn:∀ args w,(callFunc F args).run Tryd.prog w=.ok (.enter F args) w) (hF:(#[.nilFunc,.func (.func 41) #[] #[],.func (.func 42) #[] #[],.func (.func 43) #[] #[],.func (.func 44) #[] #[],.func (.func 45) #[] #[],.func (.func 46) #[] #[],.func (.func 47) #[] #[],.func (.func 48) #[] #[],.func (.func 49) #[] #[],.func (.func 50) #[] #[],.func (.func 51) #[] #[],.func (.func 52) #[] #[],.func (.func 53) #[] #[]]:Array Value)[kd]? =some (.func (.func F) #[] #[])) (h:fK w c tb sb s ev) (hK:bn w) (hev:ev < 1048576) (i:Nat) (hi:i < s.aN.length) (tx at_ v x why:Int) (he:jr ⟨(kd:Int),i,tx,at_,v,x,why⟩) (hm:jH ⟨(kd:Int),i,tx,at_,v,x,why⟩ s.aN.length s.vars s.aX.length=true) (r:Option Sh) (hlen:∀ s',r=some s'→s'.aN.length=s.aN.length)
    (HM:Hid (∀ W,Below w.heap.size w W→Calls Tryd.prog F #[.pointer (some ⟨c,0,none⟩),.pointer (some ⟨tb,i*13,none⟩),.agg #[.int .u8 (kd:Int),.int .i64 (i:Int),.int .i64 tx,.int .i64 at_,.int .i64 v,.int .i64 x,.int .u8 why]] W (mG W c tb sb s ev r))):
    Calls Tryd.prog 22 #[.pointer (some ⟨c,0,none⟩),.agg #[.int .u8 (kd:Int),.int .i64 (i:Int),.int .i64 tx,.int .i64 at_,.int .i64 v,.int .i64 x,.int .u8 why]] w (Bl w c tb sb s ev r):=by
  have HF:=hid hF
  clear hF
  have kd0:(0:Int)≤(kd:Int):=by omega
  have kd1:(kd:Int) < 14:=by omega
  have kd2:decide (kd < 14)=true:=decide_eq_true hkd
  obtain⟨c0,c1,c2,c3,c4⟩:=h.cells
  have hcl:=lt_of_cell c0
  have HH:=hid h
  have hne:=h.ne
  have htl:=h.th.lt
  have hsl:=h.st.lt
  have g1:(ev:Int) < 1048576:=by omega
  have g2:(0:Int)≤(ev:Int):=by omega
  have g3:decide ((1048576:Int)≤(ev:Int))=false:=by rw[decide_eq_false_iff_not];omega
  have g4:(0:Int)≤(i:Int):=by omega
  have g5:(i:Int) < (s.aN.length:Int):=by omega
  have hmay:=fun W (hW:Below w.heap.size w W)=>II ⟨(kd:Int),i,tx,at_,v,x,why⟩ s.aN.length s.vars s.aX.length W he (hK.below hW)
  rw[hm]at hmay
  dsimp only[jL]at hmay
  have Dc:=hid hmay
  clear hmay
  clear h hK he hm hev hi
  go_enter Tryd.func22,Tryd.ntmps22
  go_wp2_with fail
  have b0:=(aA.new w #[.int .u8 (kd:Int),.int .i64 (i:Int),.int .i64 tx,.int .i64 at_,.int .i64 v,.int .i64 x,.int .u8 why] 49)
  apply dN [.agg #[.int .u8 (kd:Int),.int .i64 (i:Int),.int .i64 tx,.int .i64 at_,.int .i64 v,.int .i64 x,.int .u8 why],.pointer (some ⟨c,0,none⟩),.pointer (some ⟨c,0,none⟩),.pointer (some ⟨c,3,none⟩),.slice (some ⟨tb,0,none⟩) s.aN.length s.aN.length,.int .i64 (s.aN.length:Int),.pointer (some ⟨c,0,none⟩),.pointer (some ⟨c,0,none⟩),.pointer (some ⟨c,0,none⟩),.int .i64 s.vars,.pointer (some ⟨c,0,none⟩),.pointer (some ⟨c,0,none⟩),.pointer (some ⟨c,4,none⟩),.slice (some ⟨sb,0,none⟩) s.aX.length s.aX.length,.int .i64 (s.aX.length:Int),.bool true,.bool false,.bool false] (fun w'=>Below (w.alloc (.cells #[.int .u8 (kd:Int),.int .i64 (i:Int),.int .i64 tx,.int .i64 at_,.int .i64 v,.int .i64 x,.int .u8 why] 49)).heap.size (w.alloc (.cells #[.int .u8 (kd:Int),.int .i64 (i:Int),.int .i64 tx,.int .i64 at_,.int .i64 v,.int .i64 x,.int .u8 why] 49)) w')
  focus (simp[ay,aB,Act.put,List.getD];rfl)
  case hm=>kernel_rfl
  case hd=>kernel_rfl
  case hb=>kernel_rfl
  case kJ=>kernel_rfl
  case hsel=>kernel_rfl
  case hsz=>kernel_rfl
  case h0=>exact aj (af _)
  case hstep=>
    repeat' (first | exact trivial | (refine And.intro ?_ ?_))
    all_goals (
      intro w' hG
      rw[if_pos (by kernel_rfl)]
      intro K Qp hK
      have d0:=later hG (aG c0)
      have d3:=later hG (aG c3)
      have d4:=later hG (aG c4)
      have d20:=later hG (b0.cell 0 rfl)
      have d21:=later hG (b0.cell 1 rfl)
      have d22:=later hG (b0.cell 2 rfl)
      have d23:=later hG (b0.cell 3 rfl)
      have d24:=later hG (b0.cell 4 rfl)
      have d25:=later hG (b0.cell 5 rfl)
      have d26:=later hG (b0.cell 6 rfl)
      have hb0:Below w.heap.size w w':=ag (ah (af _) _) hG
      have HB0:=hid hb0
      have jC:=hid hG
      clear hb0 hG c0 c1 c2 c3 c4 b0
      go_simp
      first
      | exact hK _ jC.out
      | (go_wp2_with ((with_reducible refine(Dc.out _ HB0.out).mono ?_);rintro e' w1 ⟨rfl,hb1⟩)
         first | (with_reducible exact jC.out) | exact ag jC.out hb1 | exact hK _ jC.out | exact hK _ (ag jC.out hb1)))
  case hdone=>
    intro w' hG
    have hb:Below w.heap.size w w':=ag (ah (af _) _) hG
    have d2:=later hb c2
    have d3:=later hb c3
    have d20:=later hG (b0.cell 0 rfl)
    have d21:=later hG (b0.cell 1 rfl)
    have d22:=later hG (b0.cell 2 rfl)
    have d23:=later hG (b0.cell 3 rfl)
    have d24:=later hG (b0.cell 4 rfl)
    have d25:=later hG (b0.cell 5 rfl)
    have d26:=later hG (b0.cell 6 rfl)
    have z1:w.heap.size < w'.heap.size:=by have:=hG.size;simp at this;omega
    have hc1:c < w'.heap.size:=by omega
    have ht1:tb < w'.heap.size:=by omega
    have hs1:sb < w'.heap.size:=by omega
    have HB:=hid hb
    have HWZ:=hid (show c≠w.heap.size∧tb≠w.heap.size∧sb≠w.heap.size by omega)
    clear hb hG c0 c1 c2 c3 c4 b0
    have bz:=aA.new w' #[.nilFunc,.nilFunc,.nilFunc,.nilFunc,.nilFunc,.nilFunc,.nilFunc,.nilFunc,.nilFunc,.nilFunc,.nilFunc,.nilFunc,.nilFunc,.nilFunc] 89
    have hth:=Jp (n:=14) bz rfl
    have hi1:(Tryd.prog.info? 89).map (·.size)=some (#[.nilFunc,.func (.func 41) #[] #[],.func (.func 42) #[] #[],.func (.func 43) #[] #[],.func (.func 44) #[] #[],.func (.func 45) #[] #[],.func (.func 46) #[] #[],.func (.func 47) #[] #[],.func (.func 48) #[] #[],.func (.func 49) #[] #[],.func (.func 50) #[] #[],.func (.func 51) #[] #[],.func (.func 52) #[] #[],.func (.func 53) #[] #[]]:Array Value).size:=by kernel_rfl
    have hi2:(#[.nilFunc,.func (.func 41) #[] #[],.func (.func 42) #[] #[],.func (.func 43) #[] #[],.func (.func 44) #[] #[],.func (.func 45) #[] #[],.func (.func 46) #[] #[],.func (.func 47) #[] #[],.func (.func 48) #[] #[],.func (.func 49) #[] #[],.func (.func 50) #[] #[],.func (.func 51) #[] #[],.func (.func 52) #[] #[],.func (.func 53) #[] #[]]:Array Value).all (·.oneCell')=true:=by kernel_rfl
    have HI1:=hid hi1
    have HI2:=hid hi2
    have HTH:=hid hth
    clear hi1 hi2 hth
    go_wp2_with (refine wpList_store_mid rfl 89 (.tmp 5) (.tmp 33) rfl w'.heap.size 0 #[.nilFunc,.func (.func 41) #[] #[],.func (.func 42) #[] #[],.func (.func 43) #[] #[],.func (.func 44) #[] #[],.func (.func 45) #[] #[],.func (.func 46) #[] #[],.func (.func 47) #[] #[],.func (.func 48) #[] #[],.func (.func 49) #[] #[],.func (.func 50) #[] #[],.func (.func 51) #[] #[],.func (.func 52) #[] #[],.func (.func 53) #[] #[]] rfl rfl HTH.out HI1.out HI2.out ?_)
    have e9f:=zU bz (#[.nilFunc,.func (.func 41) #[] #[],.func (.func 42) #[] #[],.func (.func 43) #[] #[],.func (.func 44) #[] #[],.func (.func 45) #[] #[],.func (.func 46) #[] #[],.func (.func 47) #[] #[],.func (.func 48) #[] #[],.func (.func 49) #[] #[],.func (.func 50) #[] #[],.func (.func 51) #[] #[],.func (.func 52) #[] #[],.func (.func 53) #[] #[]]:Array Value).toList rfl kd (v:=.func (.func F) #[] #[]) (by simpa using HF.out)
    have hbz:Below w'.heap.size w' ((w'.alloc (.cells #[.nilFunc,.nilFunc,.nilFunc,.nilFunc,.nilFunc,.nilFunc,.nilFunc,.nilFunc,.nilFunc,.nilFunc,.nilFunc,.nilFunc,.nilFunc,.nilFunc] 89)).setCells w'.heap.size 0 (#[.nilFunc,.func (.func 41) #[] #[],.func (.func 42) #[] #[],.func (.func 43) #[] #[],.func (.func 44) #[] #[],.func (.func 45) #[] #[],.func (.func 46) #[] #[],.func (.func 47) #[] #[],.func (.func 48) #[] #[],.func (.func 49) #[] #[],.func (.func 50) #[] #[],.func (.func 51) #[] #[],.func (.func 52) #[] #[],.func (.func 53) #[] #[]]:Array Value).toList):=(ah (af w') _).trans (qW (B:=w'.heap.size) (Nat.le_refl _) _ 0 _)
    generalize hW:(w'.alloc (.cells #[.nilFunc,.nilFunc,.nilFunc,.nilFunc,.nilFunc,.nilFunc,.nilFunc,.nilFunc,.nilFunc,.nilFunc,.nilFunc,.nilFunc,.nilFunc,.nilFunc] 89)).setCells w'.heap.size 0 (#[.nilFunc,.func (.func 41) #[] #[],.func (.func 42) #[] #[],.func (.func 43) #[] #[],.func (.func 44) #[] #[],.func (.func 45) #[] #[],.func (.func 46) #[] #[],.func (.func 47) #[] #[],.func (.func 48) #[] #[],.func (.func 49) #[] #[],.func (.func 50) #[] #[],.func (.func 51) #[] #[],.func (.func 52) #[] #[],.func (.func 53) #[] #[]]:Array Value).toList=W2 at*
    have Jh:=hid hbz
    have q2:=later hbz d2
    have q3:=later hbz d3
    have Su:=later hbz d20
    have Sr:=later hbz d21
    have q22:=later hbz d22
    have q23:=later hbz d23
    have q24:=later hbz d24
    have Lj:=later hbz d25
    have Sm:=later hbz d26
    have z2:=hbz.size
    have hc2:c < W2.heap.size:=by omega
    have ht2:tb < W2.heap.size:=by omega
    have hs2:sb < W2.heap.size:=by omega
    have HZZ:=hid (show c≠w'.heap.size∧tb≠w'.heap.size∧sb≠w'.heap.size by omega)
    clear hW hbz bz d2 d3 d20 d21 d22 d23 d24 d25 d26
    have hb2:Below w.heap.size w W2:=ag HB.out Jh.out
    have Fp:=hid (show w.heap.size∉[c,tb,sb] by have:=HWZ.out;simp;omega)
    have QL:=hid (show w'.heap.size∉[c,tb,sb] by have:=HZZ.out;simp;omega)
    cases r with
    | none=>
      have WJ:=hid fun W (hW:Below w.heap.size w W)=>(HM.out W hW).mono (R':=fun e' w1=>e'=.returned (.bool false)∧(w1.cell? ⟨c,3,none⟩=some (.slice (some ⟨tb,0,none⟩) s.aN.length s.aN.length))∧Hid (fK w1 c tb sb s ev)∧Turn [c,tb,sb] W w1) (fun e' w1 hh=>⟨hh.1,(fK.cells hh.2.1).2.2.2.1,hid hh.2.1,hh.2.2⟩)
      clear HM hlen
      go_region_held3 (fun wq=>wq.cell? ⟨c,3,none⟩=some (.slice (some ⟨tb,0,none⟩) s.aN.length s.aN.length)∧wq.cell? ⟨w.heap.size,0,none⟩=some (.int .u8 (kd:Int))∧wq.cell? ⟨w.heap.size,1,none⟩=some (.int .i64 (i:Int))∧wq.cell? ⟨w.heap.size,2,none⟩=some (.int .i64 tx)∧wq.cell? ⟨w.heap.size,3,none⟩=some (.int .i64 at_)∧wq.cell? ⟨w.heap.size,4,none⟩=some (.int .i64 v)∧wq.cell? ⟨w.heap.size,5,none⟩=some (.int .i64 x)∧wq.cell? ⟨w.heap.size,6,none⟩=some (.int .u8 why)∧wq.cell? ⟨w'.heap.size,kd,none⟩=some (.func (.func F) #[] #[]))
        (first | exact⟨hc3,ht1.cell Fp.out Su,ht1.cell Fp.out Sr,ht1.cell Fp.out q22,ht1.cell Fp.out q23,ht1.cell Fp.out q24,ht1.cell Fp.out Lj,ht1.cell Fp.out Sm,ht1.cell QL.out e9f⟩ | go_keep)
        (((with_reducible refine(WJ.out _ ?_).mono ?_);(focus repeat (first | assumption | exact af _ | refine aj ?_ | refine ah ?_ _ | refine ag ?_ (by assumption)));rintro e' w1 ⟨rfl,hc3,uF,ht1⟩))
      all_goals (
        have ht2:Turn [c,tb,sb] w w1:=(Turn.of_below hb2).trans ((Turn.refl _ _).drew.trans ht1)
        have HT2:=hid ht2
        clear ht1 ht2
        go_wp2_with fail
        go_ret
        exact Or.inr ⟨rfl,rfl,uF.out,HT2.out⟩)
    | some s'=>
      have hl:=hlen s' rfl
      have WJ:=hid fun W (hW:Below w.heap.size w W)=>(HM.out W hW).mono (R':=fun e' w1=>e'=.returned (.bool true)∧(w1.cell? ⟨c,3,none⟩=some (.slice (some ⟨tb,0,none⟩) s.aN.length s.aN.length))∧Hid (fK w1 c tb sb s' ev)∧Turn [c,tb,sb] W w1) (fun e' w1 hh=>⟨hh.1,by rw[←hl];exact(fK.cells hh.2.1).2.2.2.1,hid hh.2.1,hh.2.2⟩)
      clear HM hlen hl
      go_region_held3 (fun wq=>wq.cell? ⟨c,3,none⟩=some (.slice (some ⟨tb,0,none⟩) s.aN.length s.aN.length)∧wq.cell? ⟨w.heap.size,0,none⟩=some (.int .u8 (kd:Int))∧wq.cell? ⟨w.heap.size,1,none⟩=some (.int .i64 (i:Int))∧wq.cell? ⟨w.heap.size,2,none⟩=some (.int .i64 tx)∧wq.cell? ⟨w.heap.size,3,none⟩=some (.int .i64 at_)∧wq.cell? ⟨w.heap.size,4,none⟩=some (.int .i64 v)∧wq.cell? ⟨w.heap.size,5,none⟩=some (.int .i64 x)∧wq.cell? ⟨w.heap.size,6,none⟩=some (.int .u8 why)∧wq.cell? ⟨w'.heap.size,kd,none⟩=some (.func (.func F) #[] #[]))
        (first | exact⟨hc3,ht1.cell Fp.out Su,ht1.cell Fp.out Sr,ht1.cell Fp.out q22,ht1.cell Fp.out q23,ht1.cell Fp.out q24,ht1.cell Fp.out Lj,ht1.cell Fp.out Sm,ht1.cell QL.out e9f⟩ | go_keep)
        (((with_reducible refine(WJ.out _ ?_).mono ?_);(focus repeat (first | assumption | exact af _ | refine aj ?_ | refine ah ?_ _ | refine ag ?_ (by assumption)));rintro e' w1 ⟨rfl,hc3,uF,ht1⟩))
      all_goals (
        have ht2:Turn [c,tb,sb] w w1:=(Turn.of_below hb2).trans ((Turn.refl _ _).drew.trans ht1)
        have HT2:=hid ht2
        have h2:=(fK.cells uF.out).2.2.1
        have f2:w1.frozen? ⟨c,2,none⟩=false:=uF.out.ck.free 2
        clear ht1 ht2 q2 q3 hb2
        go_wp2_with fail
        go_ret
        exact Or.inl ⟨s',rfl,rfl,aY.Si uF.out _,HT2.out.setCell (Or.inl (by simp)) _⟩)
end
end Go.Proofs.YtcddlnmcjmhbcaaDoor
-- short
