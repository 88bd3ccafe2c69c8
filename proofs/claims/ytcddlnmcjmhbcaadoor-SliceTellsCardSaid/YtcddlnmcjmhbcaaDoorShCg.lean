/-
  The checker; walks: Next.
-/
import Derived.Test.YtcddlnmcjmhbcaaDoorShCx
import Derived.Shelf.Abstract
namespace Go.Proofs.YtcddlnmcjmhbcaaDoor
set_option linter.unusedVariables false
set_option linter.unusedSimpArgs false
open Go Go.RowKit
theorem KA {s s':Sh} {t:Th} {e:Ev} (h:nZ s t e=some s'):s'.aN.length=s.aN.length:=by
  unfold nZ at h
  by_cases k1:e.kind=1
  · rw[if_pos k1]at h
    unfold iU at h;split at h
    · cases h;simp[Sh.aI,Sh.setSt]
    · cases h
  rw[if_neg k1]at h
  by_cases k2:e.kind=2
  · rw[if_pos k2]at h
    unfold lJ at h;split at h
    · cases h;simp[Sh.aI,Sh.setSt]
    · cases h
  rw[if_neg k2]at h
  by_cases k3:e.kind=3
  · rw[if_pos k3]at h
    unfold lK at h;split at h
    · cases h;simp[Sh.aI,Sh.setSt]
    · cases h
  rw[if_neg k3]at h
  by_cases k4:e.kind=4
  · rw[if_pos k4]at h
    unfold mF at h;split at h
    · cases h;simp[Sh.aI,Sh.setSt]
    · cases h
  rw[if_neg k4]at h
  by_cases k5:e.kind=5
  · rw[if_pos k5]at h
    unfold kR at h;split at h
    · cases h;simp[Sh.aI,Sh.setSt]
    · cases h
  rw[if_neg k5]at h
  by_cases k6:e.kind=6
  · rw[if_pos k6]at h
    unfold ji at h;split at h
    · cases h;simp[Sh.aI,Sh.setSt]
    · cases h
  rw[if_neg k6]at h
  by_cases k7:e.kind=7
  · rw[if_pos k7]at h
    unfold eu at h;split at h
    · cases h;simp[Sh.aI]
    · split at h
      · cases h;simp[Sh.aI]
      · cases h
  rw[if_neg k7]at h
  by_cases k8:e.kind=8
  · rw[if_pos k8]at h
    unfold jb at h;split at h
    · cases h;simp[Sh.aI,Sh.setSt]
    · cases h
  rw[if_neg k8]at h
  by_cases k9:e.kind=9
  · rw[if_pos k9]at h
    unfold iT at h;split at h
    · cases h;simp[Sh.aI,Sh.setSt]
    · cases h
  rw[if_neg k9]at h
  by_cases k10:e.kind=10
  · rw[if_pos k10]at h
    unfold jk at h;split at h
    · cases h;simp[Sh.aI,Sh.setSt]
    · cases h
  rw[if_neg k10]at h
  by_cases k11:e.kind=11
  · rw[if_pos k11]at h
    unfold jX at h;split at h
    · cases h;simp[Sh.aI,Sh.setSt]
    · cases h
  rw[if_neg k11]at h
  by_cases k12:e.kind=12
  · rw[if_pos k12]at h
    unfold oz at h;split at h
    · cases h;simp[Sh.aI,Sh.setSt]
    · cases h
  rw[if_neg k12]at h
  unfold ny at h;split at h
  · cases h;simp[Sh.aI,Sh.setSt]
  · cases h
section
variable {w:World} {c tb sb:Nat} {s:Sh} {ev:Nat}
theorem next_any (h:fK w c tb sb s ev) (hw:Wf s) (hcm:∀ i,i < s.aN.length→(s.aN.getD i Th.zero).aP≤1048576) (hK:bn w) (hT:gJ w) (hev:ev < 1048576) (e:Ev) (he:jr e) (hm:jH e s.aN.length s.vars s.aX.length=true):
    Calls Tryd.prog 22 #[.pointer (some ⟨c,0,none⟩),jL e] w (Bl w c tb sb s ev (stepS s e)):=by
  have hst:stepS s e=nZ s (s.th e.th) e:=by unfold stepS;exact if_pos hm
  rw[hst]
  obtain⟨hk,hth,htx,hv,hat,hS⟩:=oI hm
  obtain⟨kind,th,tx,at_,v,x,why⟩:=e
  obtain⟨i,rfl⟩:=Int.eq_ofNat_of_zero_le hth.1
  obtain⟨a,rfl⟩:=Int.eq_ofNat_of_zero_le hat.1
  dsimp only at hk hth htx hv hat
  have hi:i < s.aN.length:=by omega
  have ht:=hw.th i hi
  have hT0:s.th (i:Int)=s.aN.getD i Th.zero:=rfl
  dsimp only
  rw[hT0]
  have hc:=hcm i hi
  have hlen:∀ r,nZ s (s.aN.getD i Th.zero) ⟨kind,i,tx,a,v,x,why⟩=r→∀ s',r=some s'→s'.aN.length=s.aN.length:=by
    intro r hr s' hs;rw[hs]at hr;exact KA hr
  obtain⟨t,het⟩:∃ t,s.aN.getD i Th.zero=t:=⟨_,rfl⟩
  rw[het]at ht hc hlen⊢
  obtain⟨q,hq⟩:=Int.eq_ofNat_of_zero_le ht.st.1
  have hsn:s.n=s.aX.length:=rfl
  have SS:q < s.aX.length:=by have:=ht.st.2;omega
  have hsz:=hw.size
  have OU:kind≠3→kind≠8→a < s.aX.length:=by
    intro h3 h8
    have:=nH (e:=⟨kind,i,tx,a,v,x,why⟩) (V:=s.vars) (S:=s.aX.length) h3 h8 (by omega)
    omega
  have qL:=ht.Lh
  have wH:=hw.clk
  have C:∀ {W:World},Below w.heap.size w W→fK W c tb sb s ev:=fun hW=>aY.below h hW
  have hkc:kind=1∨kind=2∨kind=3∨kind=4∨kind=5∨kind=6∨kind=7∨kind=8∨kind=9∨kind=10∨kind=11∨kind=12∨kind=13:=by omega
  rcases hkc with rfl | rfl | rfl | rfl | rfl | rfl | rfl | rfl | rfl | rfl | rfl | rfl | rfl
  · exact gX 1 41 (by decide) (enters_of Tryd.func41 (by kernel_rfl) rfl) rfl h hK hev i hi tx a v x why he hm _ (hlen _ rfl) (hid fun W hW=>KN (C hW) i hi het 1 tx a v x why)
  · exact gX 2 42 (by decide) (enters_of Tryd.func42 (by kernel_rfl) rfl) rfl h hK hev i hi tx a v x why he hm _ (hlen _ rfl) (hid fun W hW=>MN (C hW) i hi het a (OU (by decide) (by decide)) 2 tx v x why)
  · exact gX 3 43 (by decide) (enters_of Tryd.func43 (by kernel_rfl) rfl) rfl h hK hev i hi tx a v x why he hm _ (hlen _ rfl) (hid fun W hW=>MP (C hW) i hi het ht.m1 q hq SS (by omega) a 3 tx v x why)
  · exact gX 4 44 (by decide) (enters_of Tryd.func44 (by kernel_rfl) rfl) rfl h hK hev i hi tx a v x why he hm _ (hlen _ rfl) (hid fun W hW=>MO (C hW) i hi het ht.m2 a (OU (by decide) (by decide)) (by have:=OU (by decide) (by decide);omega) 4 tx v x why)
  · exact gX 5 45 (by decide) (enters_of Tryd.func45 (by kernel_rfl) rfl) rfl h hK hev i hi tx a v x why he hm _ (hlen _ rfl) (hid fun W hW=>bump_any (C hW) i hi het (by omega) 5 tx a v x why)
  · exact gX 6 46 (by decide) (enters_of Tryd.func46 (by kernel_rfl) rfl) rfl h hK hev i hi tx a v x why he hm _ (hlen _ rfl) (hid fun W hW=>Eu (C hW) (hT.below hW) i hi het ht.m4 a (OU (by decide) (by decide)) (by have:=OU (by decide) (by decide);omega) 6 tx v x why)
  · exact gX 7 47 (by decide) (enters_of Tryd.func47 (by kernel_rfl) rfl) rfl h hK hev i hi tx a v x why he hm _ (hlen _ rfl) (hid fun W hW=>He (C hW) i hi het (by have:=ht.com;omega) 7 tx a v x why)
  · exact gX 8 48 (by decide) (enters_of Tryd.func48 (by kernel_rfl) rfl) rfl h hK hev i hi tx a v x why he hm _ (hlen _ rfl) (hid fun W hW=>Jq (C hW) i hi het ht.m2 ht.m3 a ((a:Int) % (s.aX.length:Int)).toNat (by omega) (by omega) (by have:=Cb (a:=(a:Int)) (n:=(s.aX.length:Int)) (by omega);omega) 8 tx v x why)
  · exact gX 9 49 (by decide) (enters_of Tryd.func49 (by kernel_rfl) rfl) rfl h hK hev i hi tx a v x why he hm _ (hlen _ rfl) (hid fun W hW=>Kv (C hW) (hT.below hW) i hi het ht.m2 (by have:=ht.com;omega) a (OU (by decide) (by decide)) (by have:=OU (by decide) (by decide);omega) 9 tx v x why)
  · have hy:1≤why∧why≤6:=by
      unfold jH at hm
      simp only[Bool.and_eq_true,decide_eq_true_eq]at hm
      exact hm.1.2.2.2.1 trivial
    exact gX 10 50 (by decide) (enters_of Tryd.func50 (by kernel_rfl) rfl) rfl h hK hev i hi tx a v x why he hm _ (hlen _ rfl) (hid fun W hW=>KU (C hW) (hT.below hW) i hi het ht.m4 q hq SS a (OU (by decide) (by decide)) 10 tx v x why hy)
  · exact gX 11 51 (by decide) (enters_of Tryd.func51 (by kernel_rfl) rfl) rfl h hK hev i hi tx a v x why he hm _ (hlen _ rfl) (hid fun W hW=>LP (C hW) (hT.below hW) i hi het ht.m2 a (OU (by decide) (by decide)) (by have:=OU (by decide) (by decide);omega) 11 tx v x why)
  · exact gX 12 52 (by decide) (enters_of Tryd.func52 (by kernel_rfl) rfl) rfl h hK hev i hi tx a v x why he hm _ (hlen _ rfl) (hid fun W hW=>LK (C hW) i hi het 12 tx a v x why)
  · exact gX 13 53 (by decide) (enters_of Tryd.func53 (by kernel_rfl) rfl) rfl h hK hev i hi tx a v x why he hm _ (hlen _ rfl) (hid fun W hW=>LJ (C hW) i hi het ht.m1 (by omega) 13 tx a v x why)
set_option maxRecDepth 100000 in
set_option maxHeartbeats 4000000 in
theorem JI (h:fK w c tb sb s ev) (hK:bn w) (hev:ev < 1048576) (kind th tx at_ v x why:Int) (he:jr ⟨kind,th,tx,at_,v,x,why⟩) (hm:jH ⟨kind,th,tx,at_,v,x,why⟩ s.aN.length s.vars s.aX.length=false):
    Calls Tryd.prog 22 #[.pointer (some ⟨c,0,none⟩),.agg #[.int .u8 kind,.int .i64 th,.int .i64 tx,.int .i64 at_,.int .i64 v,.int .i64 x,.int .u8 why]] w (Bl w c tb sb s ev none):=by
  obtain⟨c0,c1,c2,c3,c4⟩:=h.cells
  have hcl:=lt_of_cell c0
  have HH:=hid h
  have g1:(ev:Int) < 1048576:=by omega
  have g2:(0:Int)≤(ev:Int):=by omega
  have g3:decide ((1048576:Int)≤(ev:Int))=false:=by rw[decide_eq_false_iff_not];omega
  have hmay:=fun W (hW:Below w.heap.size w W)=>II ⟨kind,th,tx,at_,v,x,why⟩ s.aN.length s.vars s.aX.length W he (hK.below hW)
  rw[hm]at hmay
  dsimp only[jL]at hmay
  have Dc:=hid hmay
  clear hmay
  clear h hK he hm hev
  go_enter Tryd.func22,Tryd.ntmps22
  go_wp2_with fail
  have b0:=(aA.new w #[.int .u8 kind,.int .i64 th,.int .i64 tx,.int .i64 at_,.int .i64 v,.int .i64 x,.int .u8 why] 49)
  apply dN [.agg #[.int .u8 kind,.int .i64 th,.int .i64 tx,.int .i64 at_,.int .i64 v,.int .i64 x,.int .u8 why],.pointer (some ⟨c,0,none⟩),.pointer (some ⟨c,0,none⟩),.pointer (some ⟨c,3,none⟩),.slice (some ⟨tb,0,none⟩) s.aN.length s.aN.length,.int .i64 (s.aN.length:Int),.pointer (some ⟨c,0,none⟩),.pointer (some ⟨c,0,none⟩),.pointer (some ⟨c,0,none⟩),.int .i64 s.vars,.pointer (some ⟨c,0,none⟩),.pointer (some ⟨c,0,none⟩),.pointer (some ⟨c,4,none⟩),.slice (some ⟨sb,0,none⟩) s.aX.length s.aX.length,.int .i64 (s.aX.length:Int),.bool false,.bool true,.bool true] (fun w'=>Below (w.alloc (.cells #[.int .u8 kind,.int .i64 th,.int .i64 tx,.int .i64 at_,.int .i64 v,.int .i64 x,.int .u8 why] 49)).heap.size (w.alloc (.cells #[.int .u8 kind,.int .i64 th,.int .i64 tx,.int .i64 at_,.int .i64 v,.int .i64 x,.int .u8 why] 49)) w')
  focus (simp[ay,aB,Act.put,List.getD];rfl)
  case hm=>kernel_rfl
  case hd=>kernel_rfl
  case hb=>kernel_rfl
  case kJ=>kernel_rfl
  case hsel=>kernel_rfl
  case hsz=>kernel_rfl
  case h0=>exact aj (af _)
  case hstep=>
    repeat' (first | exact trivial | (refine And.intro ?_ ?_))
    all_goals (
      intro w' hG
      rw[if_pos (by kernel_rfl)]
      intro K Qp hK
      have d0:=later hG (aG c0)
      have d3:=later hG (aG c3)
      have d4:=later hG (aG c4)
      have d20:=later hG (b0.cell 0 rfl)
      have d21:=later hG (b0.cell 1 rfl)
      have d22:=later hG (b0.cell 2 rfl)
      have d23:=later hG (b0.cell 3 rfl)
      have d24:=later hG (b0.cell 4 rfl)
      have d25:=later hG (b0.cell 5 rfl)
      have d26:=later hG (b0.cell 6 rfl)
      have hb0:Below w.heap.size w w':=ag (ah (af _) _) hG
      have HB0:=hid hb0
      have jC:=hid hG
      clear hb0 hG c0 c1 c2 c3 c4 b0
      go_simp
      first
      | exact hK _ jC.out
      | (go_wp2_with ((with_reducible refine(Dc.out _ HB0.out).mono ?_);rintro e' w1 ⟨rfl,hb1⟩)
         first | (with_reducible exact jC.out) | exact ag jC.out hb1 | exact hK _ jC.out | exact hK _ (ag jC.out hb1)))
  case hdone=>
    intro w' hG
    have hb:Below w.heap.size w w':=ag (ah (af _) _) hG
    have HB:=hid hb
    clear hb hG c0 c1 c2 c3 c4 b0
    go_wp2_with fail
    go_ret
    exact Or.inr ⟨rfl,rfl,aY.below HH.out HB.out,Turn.of_below HB.out⟩
theorem MG (h:fK w c tb sb s ev) (hw:Wf s) (hcm:∀ i,i < s.aN.length→(s.aN.getD i Th.zero).aP≤1048576) (hK:bn w) (hT:gJ w) (hev:ev < 1048576) (e:Ev) (he:jr e):
    Calls Tryd.prog 22 #[.pointer (some ⟨c,0,none⟩),jL e] w (Bl w c tb sb s ev (stepS s e)):=by
  cases hm:jH e s.aN.length s.vars s.aX.length with
  | true=>exact next_any h hw hcm hK hT hev e he hm
  | false=>
    have:stepS s e=none:=by unfold stepS;have hn:s.n=s.aX.length:=rfl;rw[hn,hm];rfl
    rw[this]
    exact JI h hK hev e.kind e.th e.tx e.at_ e.v e.x e.why he hm
end
end Go.Proofs.YtcddlnmcjmhbcaaDoor
-- short
