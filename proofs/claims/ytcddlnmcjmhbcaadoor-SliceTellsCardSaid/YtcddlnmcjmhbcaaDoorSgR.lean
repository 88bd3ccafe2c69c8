/-
  Joined texts: SrW1 SrW2.
-/
import Derived.Test.YtcddlnmcjmhbcaaDoorProg
import Derived.Test.YtcddlnmcjmhbcaaDoorSgD
import Derived.Test.YtcddlnmcjmhbcaaDoorRgB
import Derived.BigQuiet
import Derived.Deep.QuietTactic
import Derived.WalkKit
import Derived.Test.YtcddlnmcjmhbcaaDoorHtF
import Derived.Deep.RegionLaw
namespace Go.Proofs.YtcddlnmcjmhbcaaDoor
set_option linter.unusedVariables false
set_option linter.unusedSimpArgs false
open Go Go.RowKit
def Oc (a:aH) (r u:Value):Value:=.agg #[.int .i64 a.th,.int .i64 a.tx,.int .i64 a.from_,.int .i64 a.dI,.int .i64 a.rv,.int .i64 a.wv,.bool a.com,r,u]
theorem Ol {l:List (Int×Int)} {v:Int} {k:Nat} (h:k < l.length):((l.take (k+1)).any fun p=>p.1==v)=(((l.take k).any fun p=>p.1==v)||(l[k].1==v)):=by
  rw[List.take_succ_eq_append_getElem h,List.any_append];simp
set_option maxRecDepth 100000 in
set_option maxHeartbeats 4000000 in
theorem tY (a:aH) (v:Int) (r u:Value) (w:World) (hu:fJ w a.writes u):Calls Tryd.prog 74 #[Oc a r u,.int .i64 v] w fun e w'=>e=.returned (.bool (iZ a v))∧Below w.heap.size w w':=by
  obtain⟨p,cap,rfl,hl,-,hx⟩:=hu
  have hbx:aA (w.alloc (.cells #[.int .i64 a.th,.int .i64 a.tx,.int .i64 a.from_,.int .i64 a.dI,.int .i64 a.rv,.int .i64 a.wv,.bool a.com,r,.slice p a.writes.length cap] 58)) w.heap.size #[.int .i64 a.th,.int .i64 a.tx,.int .i64 a.from_,.int .i64 a.dI,.int .i64 a.rv,.int .i64 a.wv,.bool a.com,r,.slice p a.writes.length cap] 58:=aA.new _ _ _
  have hb1:=ah (af w) (.cells #[.int .i64 a.th,.int .i64 a.tx,.int .i64 a.from_,.int .i64 a.dI,.int .i64 a.rv,.int .i64 a.wv,.bool a.com,r,.slice p a.writes.length cap] 58)
  have HX:=hid hx
  have HL:=hid hl
  have O3:=hid hbx
  have HB1:=hid hb1
  obtain⟨Q,hQ⟩:∃ Q,Q=iZ a v:=⟨_,rfl⟩
  rw[←hQ]
  have HQ:Hid (Q=(((a.writes.take a.writes.length).any fun p=>p.1==v)&&decide (0 < a.wv))):=hid (by rw[hQ,List.take_length];rfl)
  unfold Oc
  clear hx hl hbx hb1 hQ
  go_enter Tryd.func74,Tryd.ntmps74
  go_wp2_with fail
  go_loopw [5,6] (fun q i wr=>∃ (k:Nat) (W':World),W'=wr∧k≤a.writes.length∧i=.int .i64 k∧q=.bool ((a.writes.take k).any fun p=>p.1==v)∧Below w.heap.size w W'∧aA W' w.heap.size #[.int .i64 a.th,.int .i64 a.tx,.int .i64 a.from_,.int .i64 a.dI,.int .i64 a.rv,.int .i64 a.wv,.bool a.com,r,.slice p a.writes.length cap] 58) (fun _ i _=>a.writes.length-(intOf i).toNat)
  case atStart=>exact⟨0,_,rfl,Nat.zero_le _,rfl,rfl,HB1.out,O3.out⟩
  case round=>
    obtain⟨k,wr,hwr,hk,rfl,rfl,hb,hB⟩:=hrel
    subst hwr
    have c8:=hB.cell 8 (v:=.slice p a.writes.length cap) rfl
    by_cases hlt:k < a.writes.length
    · obtain⟨q,o,rfl,hc⟩:=HX.out (by intro h;rw[h]at hlt;simp at hlt)
      have d0:=later hb (hc k hlt).1
      have hql:=lt_of_cell d0
      have htk:=Ol (v:=v) hlt
      have HB:=hid hb
      have zL:=hid hB
      have bf:=hid hlt
      have xR:=hid htk
      have j1:decide ((k:Int) < (a.writes.length:Int))=true:=by rw[decide_eq_true_iff];omega
      have j2:decide (k < a.writes.length)=true:=decide_eq_true hlt
      have j3:IntKind.i64.wrap ((k:Int)+1)=(k:Int)+1:=IntWalk.i64_in _ (by have:=HL.out;omega)
      generalize a.writes[k]=pk at*
      clear hb hB hc hlt hk htk
      cases hq:((a.writes.take k).any fun p=>p.1==v)with
      | true=>
        rw[hq]at xR
        go_wp2_with fail
        go_roundw
        case rel=>exact⟨k+1,_,rfl,bf.out,by go_num,by rw[xR.out];rfl,HB.out,zL.out⟩
        case measure=>have:=bf.out;simp[intOf];omega
      | false=>
        rw[hq]at xR
        go_wp2_with fail
        go_roundw
        case rel=>exact⟨k+1,_,rfl,bf.out,by go_num,by rw[xR.out];rfl,HB.out,zL.out⟩
        case measure=>have:=bf.out;simp[intOf];omega
    · obtain rfl:k=a.writes.length:=by omega
      have j1:decide ((a.writes.length:Int) < (a.writes.length:Int))=false:=by rw[decide_eq_false_iff_not];omega
      have c5:=hB.cell 5 (v:=.int .i64 a.wv) rfl
      have HB:=hid hb
      clear hb hB hk
      cases hq:((a.writes.take a.writes.length).any fun p=>p.1==v)with
      | true=>
        go_wp2_with fail
        go_ret
        exact⟨by rw[HQ.out,hq];simp,HB.out⟩
      | false=>
        go_wp2_with fail
        go_ret
        exact⟨by rw[HQ.out,hq];simp,HB.out⟩
theorem getD_at {L:List aH} {k:Nat} (h:k < L.length):L.getD k aH.zero=L[k]:=by rw[List.getD_eq_getElem?_getD,List.getElem?_eq_getElem h];rfl
theorem A8 {L:List aH} {i:Nat} {v most:Int} (h:iZ (L.getD i aH.zero) v=false∨jE (L.getD i aH.zero) most=true):dG L i v most=false:=by
  unfold dG
  rcases h with h | h <;> rw[h] <;> simp
theorem oM {L:List aH} {i k:Nat} {v most:Int} (hk:k < L.length) (h:jW L i v most k=true):dG L i v most=false:=by
  unfold dG
  rw[Bool.and_eq_false_iff]
  right
  rw[List.all_eq_false]
  exact⟨k,List.mem_range.2 hk,by rw[h];simp⟩
theorem zy {L:List aH} {i:Nat} {v most:Int} (h1:iZ (L.getD i aH.zero) v=true) (h2:jE (L.getD i aH.zero) most=false) (h:∀ j,j < L.length→jW L i v most j=false):dG L i v most=true:=by
  unfold dG
  rw[h1,h2]
  simp only[Bool.not_true,Bool.or_false,Bool.not_false,Bool.true_and,List.all_eq_true]
  intro k hk
  rw[h k (List.mem_range.1 hk)];rfl
theorem lD {L:List aH} {i k:Nat} {v most:Int} (h:k=i∨iZ (L.getD k aH.zero) v=false∨jE (L.getD k aH.zero) most=true):jW L i v most k=false:=by
  unfold jW
  rcases h with h | h | h <;> rw[h] <;> simp
theorem EG {L:List aH} {i k:Nat} {v most:Int} (h1:k≠i) (h2:iZ (L.getD k aH.zero) v=true) (h3:jE (L.getD k aH.zero) most=false):jW L i v most k=(decide ((L.getD i aH.zero).wv < (L.getD k aH.zero).wv)||decide ((L.getD k aH.zero).wv=(L.getD i aH.zero).wv)&&decide (k < i)):=by
  unfold jW
  rw[h2,h3,decide_eq_false h1];simp
set_option maxRecDepth 100000 in
set_option maxHeartbeats 4000000 in
theorem zB (L:List aH) (i:Nat) (v most:Int) (w:World) (sv:Value) (hr:jq w L sv) (hi:i < L.length) (hlen:L.length≤1000000):
    Calls Tryd.prog 37 #[sv,.int .i64 (i:Int),.int .i64 v,.int .i64 most] w fun e w'=>e=.returned (.bool (dG L i v most))∧Below w.heap.size w w':=by
  obtain⟨a,cap,rfl,-,hx⟩:=hr
  obtain⟨b,off,rfl,hrd⟩:=hx (by intro h;rw[h]at hi;simp at hi)
  have xG:=hid hrd
  obtain⟨r,u,hc⟩:=hrd i hi
  have U3:=hid (fun(w':World) (hb:Below w.heap.size w w')=>tY L[i] v r u w' (hc.writes.below hb))
  unfold Oc at U3
  have d0:=hc.c0
  have d1:=hc.c1
  have d2:=hc.c2
  have d3:=hc.c3
  have d4:=hc.c4
  have d5:=hc.c5
  have d6:=hc.c6
  have d7:=hc.c7
  have d8:=hc.c8
  have hgi:=getD_at hi
  have RJ:=hid hgi
  have HI:=hid hi
  have Bo:=hid hlen
  have e1:decide ((i:Int) < (L.length:Int))=true:=by rw[decide_eq_true_iff];omega
  have e2:decide (i < L.length)=true:=decide_eq_true hi
  have D5:=hid d5
  obtain⟨res,hres⟩:∃ res,res=dG L i v most:=⟨_,rfl⟩
  rw[←hres]
  have sZ:=hid hres
  have hbl:=lt_of_cell d0
  generalize hLi:L[i]=Li at*
  have HLI:=hid hLi
  obtain⟨q1,hq1⟩:∃ q1,q1=iZ Li v:=⟨_,rfl⟩
  rw[←hq1]at U3
  have Zx:=hid hq1
  clear hx hrd hc hgi hlen hres hq1 hLi
  cases q1 with
  | false=>
    have hfin:res=false:=by rw[sZ.out];exact A8 (.inl (by rw[RJ.out];exact Zx.out.symm))
    subst hfin
    go_enter Tryd.func37,Tryd.ntmps37
    go_wp2_with fail
    refine(U3.out _ (af _)).mono ?_
    rintro e' w1 ⟨rfl,hb1⟩
    have HB1:=hid hb1
    clear hb1
    go_wp2_with fail
    go_ret
    exact⟨rfl,HB1.out⟩
  | true=>
  by_cases h3:0≤most∧most < Li.wv
  · have hfin:res=false:=by rw[sZ.out];exact A8 (.inr (by rw[RJ.out];unfold jE;rw[decide_eq_true h3.1,decide_eq_true h3.2];rfl))
    subst hfin
    have g1:decide (0≤most)=true:=decide_eq_true h3.1
    have g2:decide (most < Li.wv)=true:=decide_eq_true h3.2
    clear h3
    go_enter Tryd.func37,Tryd.ntmps37
    go_wp2_with fail
    refine(U3.out _ (af _)).mono ?_
    rintro e' w1 ⟨rfl,hb1⟩
    have f5:=later hb1 D5.out
    have HB1:=hid hb1
    clear hb1
    go_wp2_with fail
    go_ret
    exact⟨rfl,HB1.out⟩
  have hov:jE Li most=false:=by
    unfold jE
    rw[Bool.and_eq_false_iff,decide_eq_false_iff_not,decide_eq_false_iff_not]
    omega
  have UA:=hid hov
  obtain⟨m0,hm0⟩:∃ m0,m0=decide (0≤most):=⟨_,rfl⟩
  have hm1:m0=true→decide (most < Li.wv)=false:=fun h=>by
    rw[h]at hm0
    have:=of_decide_eq_true hm0.symm
    exact decide_eq_false (by omega)
  have g1:decide (0≤most)=m0:=hm0.symm
  have Va:=hid hm0
  clear h3 hov hm0
  go_enter Tryd.func37,Tryd.ntmps37
  cases m0 with
  | true=>
    have g2:=hm1 rfl
    go_wp2_with fail
    refine(U3.out _ (af _)).mono ?_
    rintro e' w1 ⟨rfl,hb1⟩
    have f5:=later hb1 D5.out
    have HB1:=hid hb1
    clear hb1
    go_wp2_with fail
    clear d0 d1 d2 d3 d4 d5 d6 d7 d8 f5
    go_loopw [9] (fun i' wr=>∃ (k:Nat) (W':World),W'=wr∧k≤L.length∧i'=.int .i64 k∧Below w.heap.size w W'∧Hid (∀ j,j < k→jW L i v most j=false)) (fun i' _=>L.length-(intOf i').toNat)
    case atStart=>exact⟨0,_,rfl,Nat.zero_le _,rfl,HB1.out,hid (fun j hj=>absurd hj (Nat.not_lt_zero _))⟩
    case round=>
      clear HB1
      obtain⟨k,wr,hwr,hk,rfl,hb,RP⟩:=hrel
      subst hwr
      by_cases hlt:k < L.length
      · obtain⟨rk,uk,hck⟩:=xG.out k hlt
        have hck:=hck.below hb
        have c0:=hck.c0
        have c1:=hck.c1
        have c2:=hck.c2
        have c3:=hck.c3
        have c4:=hck.c4
        have c5:=hck.c5
        have c6:=hck.c6
        have c7:=hck.c7
        have c8:=hck.c8
        have hbk:=lt_of_cell c0
        have x5:=later hb D5.out
        have hgk:=getD_at hlt
        have Ot:=hid (fun(w':World) (hb':Below wr.heap.size wr w')=>tY L[k] v rk uk w' (hck.writes.below hb'))
        unfold Oc at Ot
        generalize L[k]=Lk at*
        have Ld:=hid hgk
        have HB:=hid hb
        have bf:=hid hlt
        have j1:decide ((k:Int) < (L.length:Int))=true:=by rw[decide_eq_true_iff];omega
        have j2:decide (k < L.length)=true:=decide_eq_true hlt
        have j3:IntKind.i64.wrap ((k:Int)+1)=(k:Int)+1:=IntWalk.i64_in _ (by have:=Bo.out;omega)
        have C5:=hid c5
        have Fj:Hid (jW L i v most k=false→∀ j,j < k+1→jW L i v most j=false):=hid (fun h j hj=>by
          by_cases he:j=k
          · rw[he];exact h
          · exact RP.out j (by omega))
        clear hb hck hgk hlt hk
        by_cases hki:k=i
        · have HF:=hid (Fj.out (lD (.inl hki)))
          subst hki
          go_wp2_with fail
          go_roundw
          case rel=>exact⟨k+1,_,rfl,bf.out,by go_num,HB.out,HF⟩
          case measure=>have:=bf.out;simp[intOf];omega
        · have i1:((k:Int)==(i:Int))=false:=beq_eq_false_iff_ne.2 (by omega)
          have i2:(k==i)=false:=beq_eq_false_iff_ne.2 hki
          obtain⟨qk,hqk⟩:∃ qk,qk=iZ Lk v:=⟨_,rfl⟩
          rw[←hqk]at Ot
          have Wy:=hid hqk
          clear hqk
          cases qk with
          | false=>
            have HF:=hid (Fj.out (lD (.inr (.inl (by rw[Ld.out];exact Wy.out.symm)))))
            go_wp2_with fail
            refine(Ot.out _ (af _)).mono ?_
            rintro e' w2 ⟨rfl,hb2⟩
            have HB2:=hid (ag HB.out hb2)
            clear hb2 c0 c1 c2 c3 c4 c5 c6 c7 c8 x5
            go_wp2_with fail
            go_roundw
            case rel=>exact⟨k+1,_,rfl,bf.out,by go_num,HB2.out,HF⟩
            case measure=>have:=bf.out;simp[intOf];omega
          | true=>
            by_cases hov:0≤most∧most < Lk.wv
            · have HF:=hid (Fj.out (lD (.inr (.inr (by rw[Ld.out];unfold jE;rw[decide_eq_true hov.1,decide_eq_true hov.2];rfl)))))
              first
                | exact absurd hov.1 (of_decide_eq_false Va.out.symm)
                | (have o2:decide (most < Lk.wv)=true:=decide_eq_true hov.2
                   clear hov
                   go_wp2_with fail
                   refine(Ot.out _ (af _)).mono ?_
                   rintro e' w2 ⟨rfl,hb2⟩
                   have HB2:=hid (ag HB.out hb2)
                   have c5:=later hb2 C5.out
                   clear hb2 c0 c1 c2 c3 c4 c6 c7 c8 x5
                   go_wp2_with fail
                   go_roundw
                   case rel=>exact⟨k+1,_,rfl,bf.out,by go_num,HB2.out,HF⟩
                   case measure=>have:=bf.out;simp[intOf];omega)
            · have Nq:jE Lk most=false:=by
                unfold jE
                rw[Bool.and_eq_false_iff,decide_eq_false_iff_not,decide_eq_false_iff_not]
                omega
              have Dv:=hid (EG (i:=i) hki (by rw[Ld.out];exact Wy.out.symm) (by rw[Ld.out];exact Nq))
              rw[Ld.out,RJ.out]at Dv
              have o2:decide (most < Lk.wv)=false:=decide_eq_false (fun h'=>hov ⟨of_decide_eq_true Va.out.symm,h'⟩)
              clear hov Nq
              go_wp2_with fail
              refine(Ot.out _ (af _)).mono ?_
              rintro e' w2 ⟨rfl,hb2⟩
              have HB2:=hid (ag HB.out hb2)
              have c5:=later hb2 C5.out
              have x5':=later (ag HB.out hb2) D5.out
              have hbk2:=lt_of_cell c5
              clear hb2 c0 c1 c2 c3 c4 c6 c7 c8 x5
              go_wp2_with fail
              by_cases hgt:Li.wv < Lk.wv
              · have hfin:res=false:=by rw[sZ.out];exact oM bf.out (by rw[Dv.out,decide_eq_true hgt];rfl)
                subst hfin
                have p1:decide (Li.wv < Lk.wv)=true:=decide_eq_true hgt
                clear hgt
                go_quiet (fail)
                go_wp2_with fail
                go_ret
                exact⟨rfl,ai HB2.out _⟩
              · have p1:decide (Li.wv < Lk.wv)=false:=decide_eq_false hgt
                by_cases heq:Lk.wv=Li.wv
                · have p2:(Lk.wv==Li.wv)=true:=beq_iff_eq.2 heq
                  by_cases hls:k < i
                  · have hfin:res=false:=by rw[sZ.out];exact oM bf.out (by rw[Dv.out,decide_eq_true heq,decide_eq_true hls];simp)
                    subst hfin
                    have p3:decide ((k:Int) < (i:Int))=true:=decide_eq_true (by omega)
                    have p4:decide (k < i)=true:=decide_eq_true hls
                    clear hgt heq hls
                    go_quiet (fail)
                    go_wp2_with fail
                    go_ret
                    exact⟨rfl,ai HB2.out _⟩
                  · have HF:=hid (Fj.out (by rw[Dv.out,p1,decide_eq_false hls];simp))
                    have p3:decide ((k:Int) < (i:Int))=false:=decide_eq_false (by omega)
                    have p4:decide (k < i)=false:=decide_eq_false hls
                    clear hgt heq hls
                    go_quiet (fail)
                    go_wp2_with fail
                    go_roundw
                    case rel=>exact⟨k+1,_,rfl,bf.out,by go_num,ai HB2.out _,HF⟩
                    case measure=>have:=bf.out;simp[intOf];omega
                · have p2:(Lk.wv==Li.wv)=false:=beq_eq_false_iff_ne.2 heq
                  have HF:=hid (Fj.out (by rw[Dv.out,p1,decide_eq_false heq];rfl))
                  clear hgt heq
                  go_quiet (fail)
                  go_wp2_with fail
                  go_roundw
                  case rel=>exact⟨k+1,_,rfl,bf.out,by go_num,ai HB2.out _,HF⟩
                  case measure=>have:=bf.out;simp[intOf];omega
      · obtain rfl:k=L.length:=by omega
        have j1:decide ((L.length:Int) < (L.length:Int))=false:=by rw[decide_eq_false_iff_not];omega
        have HB:=hid hb
        have hfin:res=true:=by rw[sZ.out];exact zy (by rw[RJ.out];exact Zx.out.symm) (by rw[RJ.out];exact UA.out) RP.out
        subst hfin
        clear hb hk
        go_wp2_with fail
        go_ret
        exact⟨rfl,HB.out⟩
  | false=>
    go_wp2_with fail
    refine(U3.out _ (af _)).mono ?_
    rintro e' w1 ⟨rfl,hb1⟩
    have HB1:=hid hb1
    clear hb1
    go_wp2_with fail
    clear d0 d1 d2 d3 d4 d5 d6 d7 d8
    go_loopw [9] (fun i' wr=>∃ (k:Nat) (W':World),W'=wr∧k≤L.length∧i'=.int .i64 k∧Below w.heap.size w W'∧Hid (∀ j,j < k→jW L i v most j=false)) (fun i' _=>L.length-(intOf i').toNat)
    case atStart=>exact⟨0,_,rfl,Nat.zero_le _,rfl,HB1.out,hid (fun j hj=>absurd hj (Nat.not_lt_zero _))⟩
    case round=>
      clear HB1
      obtain⟨k,wr,hwr,hk,rfl,hb,RP⟩:=hrel
      subst hwr
      by_cases hlt:k < L.length
      · obtain⟨rk,uk,hck⟩:=xG.out k hlt
        have hck:=hck.below hb
        have c0:=hck.c0
        have c1:=hck.c1
        have c2:=hck.c2
        have c3:=hck.c3
        have c4:=hck.c4
        have c5:=hck.c5
        have c6:=hck.c6
        have c7:=hck.c7
        have c8:=hck.c8
        have hbk:=lt_of_cell c0
        have x5:=later hb D5.out
        have hgk:=getD_at hlt
        have Ot:=hid (fun(w':World) (hb':Below wr.heap.size wr w')=>tY L[k] v rk uk w' (hck.writes.below hb'))
        unfold Oc at Ot
        generalize L[k]=Lk at*
        have Ld:=hid hgk
        have HB:=hid hb
        have bf:=hid hlt
        have j1:decide ((k:Int) < (L.length:Int))=true:=by rw[decide_eq_true_iff];omega
        have j2:decide (k < L.length)=true:=decide_eq_true hlt
        have j3:IntKind.i64.wrap ((k:Int)+1)=(k:Int)+1:=IntWalk.i64_in _ (by have:=Bo.out;omega)
        have C5:=hid c5
        have Fj:Hid (jW L i v most k=false→∀ j,j < k+1→jW L i v most j=false):=hid (fun h j hj=>by
          by_cases he:j=k
          · rw[he];exact h
          · exact RP.out j (by omega))
        clear hb hck hgk hlt hk
        by_cases hki:k=i
        · have HF:=hid (Fj.out (lD (.inl hki)))
          subst hki
          go_wp2_with fail
          go_roundw
          case rel=>exact⟨k+1,_,rfl,bf.out,by go_num,HB.out,HF⟩
          case measure=>have:=bf.out;simp[intOf];omega
        · have i1:((k:Int)==(i:Int))=false:=beq_eq_false_iff_ne.2 (by omega)
          have i2:(k==i)=false:=beq_eq_false_iff_ne.2 hki
          obtain⟨qk,hqk⟩:∃ qk,qk=iZ Lk v:=⟨_,rfl⟩
          rw[←hqk]at Ot
          have Wy:=hid hqk
          clear hqk
          cases qk with
          | false=>
            have HF:=hid (Fj.out (lD (.inr (.inl (by rw[Ld.out];exact Wy.out.symm)))))
            go_wp2_with fail
            refine(Ot.out _ (af _)).mono ?_
            rintro e' w2 ⟨rfl,hb2⟩
            have HB2:=hid (ag HB.out hb2)
            clear hb2 c0 c1 c2 c3 c4 c5 c6 c7 c8 x5
            go_wp2_with fail
            go_roundw
            case rel=>exact⟨k+1,_,rfl,bf.out,by go_num,HB2.out,HF⟩
            case measure=>have:=bf.out;simp[intOf];omega
          | true=>
            by_cases hov:0≤most∧most < Lk.wv
            · have HF:=hid (Fj.out (lD (.inr (.inr (by rw[Ld.out];unfold jE;rw[decide_eq_true hov.1,decide_eq_true hov.2];rfl)))))
              first
                | exact absurd hov.1 (of_decide_eq_false Va.out.symm)
                | (have o2:decide (most < Lk.wv)=true:=decide_eq_true hov.2
                   clear hov
                   go_wp2_with fail
                   refine(Ot.out _ (af _)).mono ?_
                   rintro e' w2 ⟨rfl,hb2⟩
                   have HB2:=hid (ag HB.out hb2)
                   have c5:=later hb2 C5.out
                   clear hb2 c0 c1 c2 c3 c4 c6 c7 c8 x5
                   go_wp2_with fail
                   go_roundw
                   case rel=>exact⟨k+1,_,rfl,bf.out,by go_num,HB2.out,HF⟩
                   case measure=>have:=bf.out;simp[intOf];omega)
            · have Nq:jE Lk most=false:=by
                unfold jE
                rw[Bool.and_eq_false_iff,decide_eq_false_iff_not,decide_eq_false_iff_not]
                omega
              have Dv:=hid (EG (i:=i) hki (by rw[Ld.out];exact Wy.out.symm) (by rw[Ld.out];exact Nq))
              rw[Ld.out,RJ.out]at Dv
              clear hov Nq
              go_wp2_with fail
              refine(Ot.out _ (af _)).mono ?_
              rintro e' w2 ⟨rfl,hb2⟩
              have HB2:=hid (ag HB.out hb2)
              have c5:=later hb2 C5.out
              have x5':=later (ag HB.out hb2) D5.out
              have hbk2:=lt_of_cell c5
              clear hb2 c0 c1 c2 c3 c4 c6 c7 c8 x5
              go_wp2_with fail
              by_cases hgt:Li.wv < Lk.wv
              · have hfin:res=false:=by rw[sZ.out];exact oM bf.out (by rw[Dv.out,decide_eq_true hgt];rfl)
                subst hfin
                have p1:decide (Li.wv < Lk.wv)=true:=decide_eq_true hgt
                clear hgt
                go_quiet (fail)
                go_wp2_with fail
                go_ret
                exact⟨rfl,ai HB2.out _⟩
              · have p1:decide (Li.wv < Lk.wv)=false:=decide_eq_false hgt
                by_cases heq:Lk.wv=Li.wv
                · have p2:(Lk.wv==Li.wv)=true:=beq_iff_eq.2 heq
                  by_cases hls:k < i
                  · have hfin:res=false:=by rw[sZ.out];exact oM bf.out (by rw[Dv.out,decide_eq_true heq,decide_eq_true hls];simp)
                    subst hfin
                    have p3:decide ((k:Int) < (i:Int))=true:=decide_eq_true (by omega)
                    have p4:decide (k < i)=true:=decide_eq_true hls
                    clear hgt heq hls
                    go_quiet (fail)
                    go_wp2_with fail
                    go_ret
                    exact⟨rfl,ai HB2.out _⟩
                  · have HF:=hid (Fj.out (by rw[Dv.out,p1,decide_eq_false hls];simp))
                    have p3:decide ((k:Int) < (i:Int))=false:=decide_eq_false (by omega)
                    have p4:decide (k < i)=false:=decide_eq_false hls
                    clear hgt heq hls
                    go_quiet (fail)
                    go_wp2_with fail
                    go_roundw
                    case rel=>exact⟨k+1,_,rfl,bf.out,by go_num,ai HB2.out _,HF⟩
                    case measure=>have:=bf.out;simp[intOf];omega
                · have p2:(Lk.wv==Li.wv)=false:=beq_eq_false_iff_ne.2 heq
                  have HF:=hid (Fj.out (by rw[Dv.out,p1,decide_eq_false heq];rfl))
                  clear hgt heq
                  go_quiet (fail)
                  go_wp2_with fail
                  go_roundw
                  case rel=>exact⟨k+1,_,rfl,bf.out,by go_num,ai HB2.out _,HF⟩
                  case measure=>have:=bf.out;simp[intOf];omega
      · obtain rfl:k=L.length:=by omega
        have j1:decide ((L.length:Int) < (L.length:Int))=false:=by rw[decide_eq_false_iff_not];omega
        have HB:=hid hb
        have hfin:res=true:=by rw[sZ.out];exact zy (by rw[RJ.out];exact Zx.out.symm) (by rw[RJ.out];exact UA.out) RP.out
        subst hfin
        clear hb hk
        go_wp2_with fail
        go_ret
        exact⟨rfl,HB.out⟩
set_option maxRecDepth 100000 in
set_option maxHeartbeats 4000000 in
theorem Og (L:List aH) (ia ib:Nat) (w:World) (sv:Value) (hr:jq w L sv) (ha:ia < L.length) (hb:ib < L.length) (hlen:L.length≤1000000):
    Calls Tryd.prog 38 #[sv,.int .i64 (ia:Int),.int .i64 (ib:Int)] w fun e w'=>e=.returned (.bool (oQ L ia ib))∧Below w.heap.size w w':=by
  have hr0:=hr
  obtain⟨a,cap,rfl,-,hx⟩:=hr0
  obtain⟨b,off,rfl,hrd⟩:=hx (by intro h;rw[h]at ha;simp at ha)
  have ZX:=hid (fun(v most:Int) (w':World) (h:Below w.heap.size w w')=>zB L ib v most w' _ (hr.below h) hb hlen)
  obtain⟨r,u,hm⟩:=hrd ia ha
  obtain⟨r',u',hm'⟩:=hrd ib hb
  obtain⟨ra,rc,rfl⟩:=hm.reads.shape
  obtain⟨ua,uc,rfl⟩:=hm.writes.shape
  obtain⟨ra',rc',rfl⟩:=hm'.reads.shape
  obtain⟨XX,XW,rfl⟩:=hm'.writes.shape
  have hga:=getD_at ha
  have hgb:=getD_at hb
  obtain⟨res,hres⟩:∃ res,res=oQ L ia ib:=⟨_,rfl⟩
  rw[←hres]
  unfold oQ at hres
  rw[hga,hgb]at hres
  have HRS:=hid hres
  have xG:=hid hm.reads
  obtain⟨-,c0,c1,c2,c3,c4,c5,c6,c7,c8,-,-⟩:=hm
  obtain⟨-,d0,d1,d2,d3,d4,d5,d6,d7,d8,-,-⟩:=hm'
  have k0:(0:Int)≤(ia:Int):=by omega
  have k1:(ia:Int) < (L.length:Int):=by omega
  have k2:decide ((ia:Int) < (L.length:Int))=true:=decide_eq_true k1
  have k3:decide (ia < L.length)=true:=decide_eq_true ha
  have k4:(0:Int)≤(ib:Int):=by omega
  have k5:(ib:Int) < (L.length:Int):=by omega
  have k6:decide ((ib:Int) < (L.length:Int))=true:=decide_eq_true k5
  have k7:decide (ib < L.length)=true:=decide_eq_true hb
  generalize L[ia]=x at*
  generalize L[ib]=y at*
  obtain⟨rn,hrn⟩:∃ rn,rn=x.reads.length:=⟨_,rfl⟩
  obtain⟨un,hun⟩:∃ un,un=x.writes.length:=⟨_,rfl⟩
  obtain⟨Vl,VE⟩:∃ Vl,Vl=y.reads.length:=⟨_,rfl⟩
  obtain⟨Vf,hun'⟩:∃ Vf,Vf=y.writes.length:=⟨_,rfl⟩
  rw[←hrn]at c7
  rw[←hun]at c8
  rw[←VE]at d7
  rw[←hun']at d8
  have XE:=hid hrn
  clear hx hrd hr hga hgb hres hrn hun VE hun' hlen
  go_enter Tryd.func38,Tryd.ntmps38
  go_wp2_with fail
  apply ni (Bx w 8 (fun i=>[.slice (some ⟨b,off,none⟩) L.length cap,.int .i64 (ia:Int),.pointer (some ⟨b,off+ia*9,none⟩),.agg #[.int .i64 x.th,.int .i64 x.tx,.int .i64 x.from_,.int .i64 x.dI,.int .i64 x.rv,.int .i64 x.wv,.bool x.com,.slice ra rn rc,.slice ua un uc],.slice (some ⟨b,off,none⟩) L.length cap,.int .i64 (ib:Int),.pointer (some ⟨b,off+ib*9,none⟩),.agg #[.int .i64 y.th,.int .i64 y.tx,.int .i64 y.from_,.int .i64 y.dI,.int .i64 y.rv,.int .i64 y.wv,.bool y.com,.slice ra' Vl rc',.slice XX Vf XW]].getD i undef) (fun c=>if c=0 then #[.int .i64 x.th,.int .i64 x.tx,.int .i64 x.from_,.int .i64 x.dI,.int .i64 x.rv,.int .i64 x.wv,.bool x.com,.slice ra rn rc,.slice ua un uc]else #[.int .i64 y.th,.int .i64 y.tx,.int .i64 y.from_,.int .i64 y.dI,.int .i64 y.rv,.int .i64 y.wv,.bool y.com,.slice ra' Vl rc',.slice XX Vf XW]) 58)
  focus (intro vals;simp[ay,aB,Act.put];rfl)
  case hm=>kernel_rfl
  case hd=>kernel_rfl
  case hb=>kernel_rfl
  case iR=>kernel_rfl
  case hsz=>kernel_rfl
  case jf=>exact fun l l' v w' h H=>H.ext h
  case h0=>exact Bx.start (aj (af _))
  case hstep=>
    refine⟨?_,?_,?_,?_,?_,?_,?_,?_,?_,?_,?_,?_,trivial⟩
    all_goals (
      intro l1 vs w' hi hd hJ
      refine⟨(fun g b h=>by cases h),fun _ ρ h1 h2 h3 h4 h5=>?_⟩)
    · have f:=h5 0 (by kernel_rfl)
      have HJ:=hid hJ
      clear hJ
      unfold aO
      go_simp
      exact Bx.get 0 (by omega) HJ.out
    · have f:=h5 1 (by kernel_rfl)
      have HJ:=hid hJ
      clear hJ
      unfold aO
      go_simp
      exact Bx.get 1 (by omega) HJ.out
    · have fa:=(h4 0 10 (by kernel_rfl) (by kernel_rfl)).trans (hJ.rJ 0 (by omega) (hd 0 (by kernel_rfl)))
      have fb:=(h4 1 11 (by kernel_rfl) (by kernel_rfl)).trans (hJ.rJ 1 (by omega) (hd 1 (by kernel_rfl)))
      dsimp only[List.getD,List.getElem?_cons_zero,List.getElem?_cons_succ,Option.getD]at fa fb
      have HJ:=hid hJ
      clear hJ
      unfold aO
      go_simp
      exact Bx.get 2 (by omega) HJ.out
    · have fa:=(h4 2 12 (by kernel_rfl) (by kernel_rfl)).trans (hJ.rJ 2 (by omega) (hd 2 (by kernel_rfl)))
      dsimp only[List.getD,List.getElem?_cons_zero,List.getElem?_cons_succ,Option.getD]at fa
      have x0:=later hJ.mid c0
      have x1:=later hJ.mid c1
      have x2:=later hJ.mid c2
      have x3:=later hJ.mid c3
      have x4:=later hJ.mid c4
      have x5:=later hJ.mid c5
      have x6:=later hJ.mid c6
      have x7:=later hJ.mid c7
      have x8:=later hJ.mid c8
      have HJ:=hid hJ
      clear hJ
      unfold aO
      go_simp
      exact Bx.get 3 (by omega) HJ.out
    · have f:=h5 0 (by kernel_rfl)
      have HJ:=hid hJ
      clear hJ
      unfold aO
      go_simp
      exact Bx.get 4 (by omega) HJ.out
    · have f:=h5 2 (by kernel_rfl)
      have HJ:=hid hJ
      clear hJ
      unfold aO
      go_simp
      exact Bx.get 5 (by omega) HJ.out
    · have fa:=(h4 4 14 (by kernel_rfl) (by kernel_rfl)).trans (hJ.rJ 4 (by omega) (hd 4 (by kernel_rfl)))
      have fb:=(h4 5 15 (by kernel_rfl) (by kernel_rfl)).trans (hJ.rJ 5 (by omega) (hd 5 (by kernel_rfl)))
      dsimp only[List.getD,List.getElem?_cons_zero,List.getElem?_cons_succ,Option.getD]at fa fb
      have HJ:=hid hJ
      clear hJ
      unfold aO
      go_simp
      exact Bx.get 6 (by omega) HJ.out
    · have fa:=(h4 6 16 (by kernel_rfl) (by kernel_rfl)).trans (hJ.rJ 6 (by omega) (hd 6 (by kernel_rfl)))
      dsimp only[List.getD,List.getElem?_cons_zero,List.getElem?_cons_succ,Option.getD]at fa
      have x0:=later hJ.mid d0
      have x1:=later hJ.mid d1
      have x2:=later hJ.mid d2
      have x3:=later hJ.mid d3
      have x4:=later hJ.mid d4
      have x5:=later hJ.mid d5
      have x6:=later hJ.mid d6
      have x7:=later hJ.mid d7
      have x8:=later hJ.mid d8
      have HJ:=hid hJ
      clear hJ
      unfold aO
      go_simp
      exact Bx.get 7 (by omega) HJ.out
    · skip
      have HJ:=hid hJ
      clear hJ
      unfold aO
      go_simp
      exact Bx.alloc rfl 0 (by omega) hi HJ.out
    · skip
      have HJ:=hid hJ
      clear hJ
      unfold aO
      go_simp
      exact Bx.alloc rfl 1 (by omega) hi HJ.out
    · have g1:=hd 8 (by kernel_rfl)
      have g2:=hJ.rJ 3 (by omega) (hd 3 (by kernel_rfl))
      obtain⟨b,cs,g3,g4,g5,g6,-⟩:=hJ.xm 0 (by omega) g1
      obtain⟨y0,y1,y2,y3,y4,y5,y6,y7,y8,rfl⟩:=Ue g6
      have f1:=(h4 8 7 (by kernel_rfl) (by kernel_rfl)).trans g3
      have f2:=(h4 3 13 (by kernel_rfl) (by kernel_rfl)).trans g2
      dsimp only[List.getD,List.getElem?_cons_zero,List.getElem?_cons_succ,Option.getD]at f2
      have HH:=hid g5
      have z0:=HH.out.free 0
      have z1:=HH.out.free 1
      have z2:=HH.out.free 2
      have z3:=HH.out.free 3
      have z4:=HH.out.free 4
      have z5:=HH.out.free 5
      have z6:=HH.out.free 6
      have z7:=HH.out.free 7
      have z8:=HH.out.free 8
      have r0:=HH.out.cell 0 (v:=y0) rfl
      have r1:=HH.out.cell 1 (v:=y1) rfl
      have r2:=HH.out.cell 2 (v:=y2) rfl
      have r3:=HH.out.cell 3 (v:=y3) rfl
      have r4:=HH.out.cell 4 (v:=y4) rfl
      have r5:=HH.out.cell 5 (v:=y5) rfl
      have r6:=HH.out.cell 6 (v:=y6) rfl
      have r7:=HH.out.cell 7 (v:=y7) rfl
      have r8:=HH.out.cell 8 (v:=y8) rfl
      have G3:=hid g3
      clear g2 g3 g5
      have HJ:=hid hJ
      clear hJ
      unfold aO
      go_simp
      exact Bx.store 0 b (by omega) rfl g1 G3.out HJ.out
    · have g1:=hd 9 (by kernel_rfl)
      have g2:=hJ.rJ 7 (by omega) (hd 7 (by kernel_rfl))
      obtain⟨b,cs,g3,g4,g5,g6,-⟩:=hJ.xm 1 (by omega) g1
      obtain⟨y0,y1,y2,y3,y4,y5,y6,y7,y8,rfl⟩:=Ue g6
      have f1:=(h4 9 8 (by kernel_rfl) (by kernel_rfl)).trans g3
      have f2:=(h4 7 17 (by kernel_rfl) (by kernel_rfl)).trans g2
      dsimp only[List.getD,List.getElem?_cons_zero,List.getElem?_cons_succ,Option.getD]at f2
      have HH:=hid g5
      have z0:=HH.out.free 0
      have z1:=HH.out.free 1
      have z2:=HH.out.free 2
      have z3:=HH.out.free 3
      have z4:=HH.out.free 4
      have z5:=HH.out.free 5
      have z6:=HH.out.free 6
      have z7:=HH.out.free 7
      have z8:=HH.out.free 8
      have r0:=HH.out.cell 0 (v:=y0) rfl
      have r1:=HH.out.cell 1 (v:=y1) rfl
      have r2:=HH.out.cell 2 (v:=y2) rfl
      have r3:=HH.out.cell 3 (v:=y3) rfl
      have r4:=HH.out.cell 4 (v:=y4) rfl
      have r5:=HH.out.cell 5 (v:=y5) rfl
      have r6:=HH.out.cell 6 (v:=y6) rfl
      have r7:=HH.out.cell 7 (v:=y7) rfl
      have r8:=HH.out.cell 8 (v:=y8) rfl
      have G3:=hid g3
      clear g2 g3 g5
      have HJ:=hid hJ
      clear hJ
      unfold aO
      go_simp
      exact Bx.store 1 b (by omega) rfl g1 G3.out HJ.out
  case hdone=>
    intro vs w6 hJ
    obtain⟨b0,d0',e0,g0,kk0,-,z0⟩:=hJ.xm 0 (by omega) rfl
    obtain⟨b1,d1',e1,g1',kk1,-,z1⟩:=hJ.xm 1 (by omega) rfl
    obtain rfl:=z0 rfl
    obtain rfl:=z1 rfl
    have e0:vs 8=_:=e0
    have e1:vs 9=_:=e1
    rw[e0,e1]
    have HB:=hid hJ.mid
    have HX:Hid (aA w6 b0 #[.int .i64 x.th,.int .i64 x.tx,.int .i64 x.from_,.int .i64 x.dI,.int .i64 x.rv,.int .i64 x.wv,.bool x.com,.slice ra rn rc,.slice ua un uc] 58):=hid kk0
    have HY:Hid (aA w6 b1 #[.int .i64 y.th,.int .i64 y.tx,.int .i64 y.from_,.int .i64 y.dI,.int .i64 y.rv,.int .i64 y.wv,.bool y.com,.slice ra' Vl rc',.slice XX Vf XW] 58):=hid kk1
    have x0:=HX.out.cell 0 (v:=.int .i64 x.th) rfl
    have x1:=HX.out.cell 1 (v:=.int .i64 x.tx) rfl
    have y0:=HY.out.cell 0 (v:=.int .i64 y.th) rfl
    have y1:=HY.out.cell 1 (v:=.int .i64 y.tx) rfl
    have y6:=HY.out.cell 6 (v:=.bool y.com) rfl
    clear hJ e0 e1 kk0 kk1 z0 z1 g0 g1' c0 c1 c2 c3 c4 c5 c6 c7 c8 d0 d1 d2 d3 d4 d5 d6 d7 d8
    by_cases hbe:mP x y=true
    · have hfin:res=true:=by rw[HRS.out,hbe];rfl
      subst hfin
      unfold mP at hbe
      simp only[Bool.and_eq_true,decide_eq_true_iff]at hbe
      obtain⟨⟨q1,q2⟩,q3⟩:=hbe
      have g2:(y.th==x.th)=true:=beq_iff_eq.2 q2
      have g3:decide (y.tx < x.tx)=true:=decide_eq_true q3
      clear q2 q3
      go_wp2_with fail
      go_ret
      exact⟨rfl,HB.out⟩
    rw[Bool.not_eq_true]at hbe
    have hres:res=x.reads.any fun p=>decide (0≤x.rv)&&dG L ib p.1 x.rv:=by rw[HRS.out,hbe];rfl
    have sZ:=hid hres
    have hcase:y.com=false∨(y.com=true∧(y.th==x.th)=false)∨(y.com=true∧(y.th==x.th)=true∧decide (y.tx < x.tx)=false):=by
      unfold mP at hbe
      by_cases h1:y.com=true
      · by_cases h2:y.th=x.th
        · refine .inr (.inr ⟨h1,beq_iff_eq.2 h2,?_⟩)
          rw[h1,decide_eq_true h2]at hbe
          simpa using hbe
        · exact .inr (.inl ⟨h1,beq_eq_false_iff_ne.2 h2⟩)
      · exact .inl (by simpa using h1)
    clear hres hbe
    rcases hcase with h1 | ⟨h1,h2⟩ | ⟨h1,h2,h3⟩
    all_goals (
      go_wp2_with fail
      clear x0 x1 y0 y1 y6
      go_loopw [9] (fun i wr=>∃ (k:Nat) (W':World),W'=wr∧k≤x.reads.length∧i=.int .i64 k∧Below w.heap.size w W'∧aA W' b0 #[.int .i64 x.th,.int .i64 x.tx,.int .i64 x.from_,.int .i64 x.dI,.int .i64 x.rv,.int .i64 x.wv,.bool x.com,.slice ra rn rc,.slice ua un uc] 58∧Hid (∀ j (h:j < x.reads.length),j < k→(decide (0≤x.rv)&&dG L ib x.reads[j].1 x.rv)=false)) (fun i _=>x.reads.length-(intOf i).toNat)
      case atStart=>exact⟨0,_,rfl,Nat.zero_le _,rfl,HB.out,HX.out,hid (fun j _ hj=>absurd hj (Nat.not_lt_zero _))⟩
      case round=>
        clear HX HY HB
        obtain⟨k,wr,hwr,hk,rfl,hb,hB,HF⟩:=hrel
        subst hwr
        have c4:=hB.cell 4 (v:=.int .i64 x.rv) rfl
        have c7:=hB.cell 7 (v:=.slice ra rn rc) rfl
        rw[XE.out]at c7
        by_cases hlt:k < x.reads.length
        · obtain⟨q,cq,hq0,hql,-,hqx⟩:=xG.out
          obtain⟨qb,qo,hqa,hc⟩:=hqx (by intro h;rw[h]at hlt;simp at hlt)
          have hra:ra=some ⟨qb,qo,none⟩:=by
            have:=congrArg (fun v:Value=>match v with | .slice a _ _=>a | _=>none) hq0
            rw[hqa]at this;exact this
          subst hra
          have d0:=later hb (hc k hlt).1
          have aak:=lt_of_cell d0
          have HB:=hid hb
          have zL:=hid hB
          have bf:=hid hlt
          have j1:decide ((k:Int) < (x.reads.length:Int))=true:=by rw[decide_eq_true_iff];omega
          have j2:decide (k < x.reads.length)=true:=decide_eq_true hlt
          have j3:IntKind.i64.wrap ((k:Int)+1)=(k:Int)+1:=IntWalk.i64_in _ (by omega)
          have hex:(x.reads[k]'hlt)∈x.reads:=List.getElem_mem hlt
          obtain⟨pk,hpk⟩:∃ pk,pk=x.reads[k]'hlt:=⟨_,rfl⟩
          rw[←hpk]at d0 hex
          have Fj:Hid ((decide (0≤x.rv)&&dG L ib pk.1 x.rv)=false→∀ j (h:j < x.reads.length),j < k+1→(decide (0≤x.rv)&&dG L ib x.reads[j].1 x.rv)=false):=hid (fun h j hj hjk=>by
            by_cases he:j=k
            · subst he;rw[hpk]at h;exact h
            · exact HF.out j hj (by omega))
          have HEX:=hid hex
          have jl:k < x.reads.length:=hlt
          have jm:(k:Int) < (x.reads.length:Int):=by omega
          have jn:(0:Int)≤(k:Int):=by omega
          clear hb hB hc hlt hk hq0 hqx hpk hex hqa
          by_cases qL:0≤x.rv
          · have g4:decide (0≤x.rv)=true:=decide_eq_true qL
            obtain⟨qc,hqc⟩:∃ qc,qc=dG L ib pk.1 x.rv:=⟨_,rfl⟩
            have HC2:=hid (fun(w':World) (h:Below wr.heap.size wr w')=>ZX.out pk.1 x.rv w' (ag HB.out h))
            rw[←hqc]at HC2
            have HQC:=hid hqc
            clear hqc
            go_wp2_with fail
            go_region_law
              (go_simp;go_at_call 37;refine(HC2.out _ (aj (af _))).mono ?_;rintro e' w8 ⟨rfl,hb8⟩
               have Xh:=hid (ag (aj (af wr)) hb8)
               clear hb8)
            all_goals (
              clear c4 c7 d0
              cases qc with
              | true=>
                have hfin:res=true:=by rw[sZ.out];exact List.any_eq_true.2 ⟨pk,HEX.out,by rw[g4,←HQC.out];rfl⟩
                subst hfin
                go_wp2_with fail
                go_ret
                exact⟨rfl,ag HB.out Xh.out⟩
              | false=>
                have ZV:=hid (Fj.out (by rw[g4,←HQC.out];rfl))
                go_wp2_with fail
                go_roundw
                case rel=>exact⟨k+1,_,rfl,bf.out,by go_num,ag HB.out Xh.out,zL.out.below Xh.out,ZV⟩
                case measure=>have:=bf.out;simp[intOf];omega)
          · have g4:decide (0≤x.rv)=false:=decide_eq_false qL
            have ZV:=hid (Fj.out (by rw[g4];rfl))
            clear qL
            go_wp2_with fail
            go_quiet (fail)
            go_wp2_with fail
            go_roundw
            case rel=>exact⟨k+1,_,rfl,bf.out,by go_num,ai HB.out _,zL.out.below (ai (af _) _),ZV⟩
            case measure=>have:=bf.out;simp[intOf];omega
        · obtain rfl:k=x.reads.length:=by omega
          have j1:decide ((x.reads.length:Int) < (x.reads.length:Int))=false:=by rw[decide_eq_false_iff_not];omega
          have hfin:res=false:=by
            rw[sZ.out,List.any_eq_false]
            intro p hp
            obtain⟨j,hj,rfl⟩:=List.getElem_of_mem hp
            rw[HF.out j hj hj];simp
          subst hfin
          have HB:=hid hb
          clear hb hB hk hlt
          go_wp2_with fail
          go_ret
          exact⟨rfl,HB.out⟩)
end Go.Proofs.YtcddlnmcjmhbcaaDoor
-- short
