/-
  What the rows' list gives, for the seat whose rows list the document's names, too.
-/
import Derived.Test.YtcddlnmcjmhbcaaDoorRows
import Derived.Test.YtcddlnmcjmhbcaaDoorShE
import Derived.Test.YtcddlnmcjmhbcaaDoorShC2
import Derived.Test.YtcddlnmcjmhbcaaDoorFrame
import Derived.Test.YtcddlnmcjmhbcaaDoorRgE
import Derived.LaidMore
import Derived.LaidSub
import Derived.Stop.Joined
import Derived.Deep.DeepHandedRow
import Derived.Deep.CondSized
namespace Go.Proofs.YtcddlnmcjmhbcaaDoor
set_option linter.unusedVariables false
set_option linter.unusedSimpArgs false
open Go Go.RowKit Go.ChangeShapes Go.WideShapes Go.ChangeAt
theorem BP:ownKnob Tryd.prog.godebug=none:=by kernel_rfl
theorem Gp:laidOutB Tryd.prog=true:=by kernel_rfl
theorem uU {P:Program} {w:World}:∀ {l:List (String×DataW Unit)} {ps:List MemPlace},DataW.LaidVars P w l ps→∀ {n:String} {d:DataW Unit},(n,d)∈l→
  ∃ g t cs fuel p,P.globalNamed n=some g∧(P.globals[g]?).map (·.type)=some t∧w.var? P n=some cs∧DataW.trod (fun _=>()) P w 0 (fun _=>true) false fuel t cs.toList=some (d,p)
 | [],_,_,n,d,h=>by cases h
 | (n',d') :: r,ps,hl,n,d,h=>by
  obtain⟨g,t,cs,fuel,p,q,e1,e2,e3,e4,hq,-⟩:=hl
  rcases List.mem_cons.1 h with h | h
  ·cases h;exact⟨g,t,cs,fuel,p,e1,e2,e3,e4⟩
  ·exact uU hq h
theorem uV {P:Program} {w:World} {l:List (String×DataW Unit)} (h:laidMetH P l w) {n:String} {d:DataW Unit} (hm:(n,d)∈l) (hn:d.handleName?.isNone=true):
  ∃ g t cs fuel p,P.globalNamed n=some g∧(P.globals[g]?).map (·.type)=some t∧w.var? P n=some cs∧DataW.trod (fun _=>()) P w 0 (fun _=>true) false fuel t cs.toList=some (d,p):=by
 obtain⟨⟨ps,hl,-,-⟩,-⟩:=laidMetH_iff.1 h
 exact uU hl (List.mem_filter.2 ⟨hm,hn⟩)
theorem gTab:Tryd.prog.globalNamed "math/bits.deBruijn32tab" =some 2:=by kernel_rfl
theorem X4:(Tryd.prog.globals[2]?).map (·.type)=some 138:=by kernel_rfl
theorem Qo:Tryd.prog.cellsOf 5=1:=by kernel_rfl
theorem NY:Tryd.prog.cellsOf 138=32:=by kernel_rfl
theorem X3:(Rows.laid_math_bits_deBruijn32tab:DataW Unit)=.agg ((List.range 32).map fun i=>.lit (.int .u8 ((Lib.deBruijn32tab.getD i 0:Nat):Int))):=by rfl
theorem RX {W:World} {l:List (String×DataW Unit)} (h:laidMetH Tryd.prog l W) (hm:("math/bits.deBruijn32tab",Rows.laid_math_bits_deBruijn32tab)∈l):gJ W:=by
 obtain⟨g,t,cs,fuel,p,hg,ht,hv,hd⟩:=uV h hm rfl
 obtain rfl:=Option.some.inj (gTab.symm.trans hg)
 obtain rfl:=Option.some.inj (X4.symm.trans ht)
 rw[X3]at hd
 obtain⟨xs,m,rfl,hx,hlen,hxs,hel⟩:=DataW.trod_array Tryd.underlying138 hd
 rw[Qo]at hel
 have h32:cs.size=32:=by rw[←Array.length_toList,hlen];exact NY
 simp only[Prod.mk.injEq,DataW.agg.injEq]at hx
 intro i hi
 have h1:=hel i hi
 rw[Nat.mul_one,List.drop_eq_getElem_cons (by simpa[h32]using hi)]at h1
 simp only[List.take_succ_cons,List.take_zero]at h1
 rw[List.getElem?_eq_getElem (by omega)]at h1
 obtain⟨n,e1,e2,-⟩:=DataW.trod_int Tryd.underlying5 h1
 have h2:=congrArg (fun l:List (DataW Unit)=>l[i]?) hx.1
 simp only[List.getElem?_map,List.getElem?_range hi,Option.map_some]at h2
 rw[List.getElem?_eq_getElem (by omega:i < xs.length),e2]at h2
 simp only[Option.map_some,Option.some.injEq,DataW.lit.injEq,Lit.int.injEq,true_and]at h2
 rw[World.var?_cell hg hv i,Array.getElem?_eq_getElem (by omega)]
 simp only[List.cons.injEq,and_true]at e1
 rw[Array.getElem_toList]at e1
 rw[e1,h2]
theorem TJ:Tryd.prog.globalNamed "seesaw/event.kinds" =some 0:=by kernel_rfl
theorem RZ:(Tryd.prog.globals[0]?).map (·.type)=some 133:=by kernel_rfl
theorem KG:Tryd.prog.cellsOf 132=2:=by kernel_rfl
theorem Hr:Tryd.prog.cellsOf 133=28:=by kernel_rfl
theorem KF:Tryd.prog.cellsOf 135=1:=by kernel_rfl
theorem Hl:Tryd.prog.cellsOf 131=1:=by kernel_rfl
def Vt:List (FuncId×List UInt8):=[(115,[40,42,115,101,101,115,97,119,47,101,118,101,110,116,46,119,104,111,108,101,41,46,116,120]),(113,[40,42,115,101,101,115,97,119,47,101,118,101,110,116,46,119,104,111,108,101,41,46,97,116]),(116,[40,42,115,101,101,115,97,119,47,101,118,101,110,116,46,119,104,111,108,101,41,46,118]),(117,[40,42,115,101,101,115,97,119,47,101,118,101,110,116,46,119,104,111,108,101,41,46,120]),(118,[40,42,115,101,101,115,97,119,47,101,118,101,110,116,46,119,104,111,108,101,41,46,119,104,121])]
def SB (f:FuncId):List UInt8:=((Vt.find? fun x=>x.1==f).map (·.2)).getD []
def GU:List FuncId→DataW (List UInt8)
 | []=>.nil
 | f :: fs=>.slice ((f :: fs).map fun g=>.held (SB g)) []
theorem SK:DataW.funcsOut (.agg [.agg [.lit (.string []),.nil],.agg [.lit (.string [98,101,103,105,110]),.slice [.iface "func" (.lit (.string [40,42,115,101,101,115,97,119,47,101,118,101,110,116,46,119,104,111,108,101,41,46,116,120])),.iface "func" (.lit (.string [40,42,115,101,101,115,97,119,47,101,118,101,110,116,46,119,104,111,108,101,41,46,118]))] []],.agg [.lit (.string [108,111,111,107]),.slice [.iface "func" (.lit (.string [40,42,115,101,101,115,97,119,47,101,118,101,110,116,46,119,104,111,108,101,41,46,97,116])),.iface "func" (.lit (.string [40,42,115,101,101,115,97,119,47,101,118,101,110,116,46,119,104,111,108,101,41,46,118]))] []],.agg [.lit (.string [108,111,97,100]),.slice [.iface "func" (.lit (.string [40,42,115,101,101,115,97,119,47,101,118,101,110,116,46,119,104,111,108,101,41,46,97,116])),.iface "func" (.lit (.string [40,42,115,101,101,115,97,119,47,101,118,101,110,116,46,119,104,111,108,101,41,46,120]))] []],.agg [.lit (.string [108,111,99,107]),.slice [.iface "func" (.lit (.string [40,42,115,101,101,115,97,119,47,101,118,101,110,116,46,119,104,111,108,101,41,46,97,116]))] []],.agg [.lit (.string [98,117,109,112]),.slice [.iface "func" (.lit (.string [40,42,115,101,101,115,97,119,47,101,118,101,110,116,46,119,104,111,108,101,41,46,118]))] []],.agg [.lit (.string [99,104,101,99,107]),.slice [.iface "func" (.lit (.string [40,42,115,101,101,115,97,119,47,101,118,101,110,116,46,119,104,111,108,101,41,46,97,116]))] []],.agg [.lit (.string [99,111,109,109,105,116]),.slice [.iface "func" (.lit (.string [40,42,115,101,101,115,97,119,47,101,118,101,110,116,46,119,104,111,108,101,41,46,118]))] []],.agg [.lit (.string [115,116,111,114,101]),.slice [.iface "func" (.lit (.string [40,42,115,101,101,115,97,119,47,101,118,101,110,116,46,119,104,111,108,101,41,46,97,116])),.iface "func" (.lit (.string [40,42,115,101,101,115,97,119,47,101,118,101,110,116,46,119,104,111,108,101,41,46,120]))] []],.agg [.lit (.string [102,114,101,101]),.slice [.iface "func" (.lit (.string [40,42,115,101,101,115,97,119,47,101,118,101,110,116,46,119,104,111,108,101,41,46,97,116]))] []],.agg [.lit (.string [97,98,111,114,116]),.slice [.iface "func" (.lit (.string [40,42,115,101,101,115,97,119,47,101,118,101,110,116,46,119,104,111,108,101,41,46,119,104,121])),.iface "func" (.lit (.string [40,42,115,101,101,115,97,119,47,101,118,101,110,116,46,119,104,111,108,101,41,46,97,116]))] []],.agg [.lit (.string [117,110,100,111]),.slice [.iface "func" (.lit (.string [40,42,115,101,101,115,97,119,47,101,118,101,110,116,46,119,104,111,108,101,41,46,97,116]))] []],.agg [.lit (.string [119,97,105,116]),.nil],.agg [.lit (.string [119,97,107,101]),.nil]])=.agg ((List.range 14).map fun k=>.agg [.lit (.string (lu.getD k [])),GU (Ci.getD k [])]):=by rfl
theorem PN {w:World} {fuel:Nat} {f:FuncId} {v:Value} {q:List MemPlace} (hf:f∈Vt.map (·.1)) (h:DataW.trod (funcToken Tryd.prog) Tryd.prog w 0 (fun _=>true) true fuel 135 [v]=some (.held (SB f),q)):v=.func (.func f) #[] #[]:=by
 simp only[Vt,List.map_cons,List.map_nil,List.mem_cons,List.not_mem_nil,or_false]at hf
 rcases hf with rfl | rfl | rfl | rfl | rfl
 ·exact func_of_trod (b:=40) (r:=[42,115,101,101,115,97,119,47,101,118,101,110,116,46,119,104,111,108,101,41,46,116,120]) (f0:=115) Tryd.underlying135 (by kernel_rfl) h
 ·exact func_of_trod (b:=40) (r:=[42,115,101,101,115,97,119,47,101,118,101,110,116,46,119,104,111,108,101,41,46,97,116]) (f0:=113) Tryd.underlying135 (by kernel_rfl) h
 ·exact func_of_trod (b:=40) (r:=[42,115,101,101,115,97,119,47,101,118,101,110,116,46,119,104,111,108,101,41,46,118]) (f0:=116) Tryd.underlying135 (by kernel_rfl) h
 ·exact func_of_trod (b:=40) (r:=[42,115,101,101,115,97,119,47,101,118,101,110,116,46,119,104,111,108,101,41,46,120]) (f0:=117) Tryd.underlying135 (by kernel_rfl) h
 ·exact func_of_trod (b:=40) (r:=[42,115,101,101,115,97,119,47,101,118,101,110,116,46,119,104,111,108,101,41,46,119,104,121]) (f0:=118) Tryd.underlying135 (by kernel_rfl) h
theorem TD {w:World} {fuel:Nat} {fs:List FuncId} {v:Value} {q:List MemPlace} (hf:∀ f∈fs,f∈Vt.map (·.1)) (h:DataW.trod (funcToken Tryd.prog) Tryd.prog w 0 (fun _=>true) true fuel 131 [v]=some (GU fs,q)):
  ∃ a cap,v=.slice a fs.length cap∧(fs=[]→a=none∧cap=0)∧(fs≠[]→∃ b o,a=some ⟨b,o,none⟩∧∀ i (h:i < fs.length),w.cell? ⟨b,o+i,none⟩=some (.func (.func fs[i]) #[] #[])):=by
 rcases DataW.trod_slice Tryd.underlying131 h with⟨hc,hx⟩ | ⟨ad,len,cap,elems,rest,n,rfl,hc,hx,hb,hl,hm,hlen,hel,hsp,hns⟩
 ·cases fs with
  | nil=>
   simp only[List.cons.injEq,and_true]at hc
   exact⟨none,0,hc,fun _=>⟨rfl,rfl⟩,fun h=>absurd rfl h⟩
  | cons f fs=>simp[GU]at hx
 ·cases fs with
  | nil=>simp[GU]at hx
  | cons f fs=>
   simp only[List.cons.injEq,and_true]at hc
   simp only[GU,Prod.mk.injEq,DataW.slice.injEq]at hx
   obtain⟨⟨h1,h2⟩,-⟩:=hx
   have hll:len=(f :: fs).length:=by rw[←hlen];have:=congrArg List.length h1;simpa using this.symm
   refine⟨some ad,cap,by rw[hc,hll],(fun h=>by cases h),fun _=>?_⟩
   rw[KF]at hel
   have get:∀ i (hi:i < (f :: fs).length),∃ ad',ad'=ad.add i∧ad'.spot=none∧w.cell? ⟨ad'.block,ad'.off,none⟩=some (.func (.func (f :: fs)[i]) #[] #[]):=by
    intro i hi
    have h3:=hel i (by omega)
    rw[Nat.mul_one,List.getElem?_eq_getElem (by omega)]at h3
    obtain⟨cs',h4,h5⟩:=Option.bind_eq_some_iff.1 h3
    obtain⟨aah,h6,h7⟩:=World.cells?_some h4
    have h8:=h7 0 (by omega)
    match cs',h6 with
    | [c],_=>
    have e0:(ad.add i).add 0=ad.add i:=by simp[Addr.add]
    rw[e0]at h8
    have h9:=World.cell?_spot h8
    have h10:=congrArg (fun l:List (DataW (List UInt8))=>l[i]?) h1
    simp only[List.getElem?_map,List.getElem?_eq_getElem (show i < elems.length by omega),List.getElem?_eq_getElem hi,Option.map_some,Option.some.injEq]at h10
    have h11:DataW.trod (funcToken Tryd.prog) Tryd.prog w 0 (fun _=>true) true n 135 [c]=some (.held (SB (f :: fs)[i]),elems[i].2):=h5.trans (congrArg some (Prod.ext h10.symm rfl))
    have hcv:=PN (hf _ (List.getElem_mem hi)) h11
    refine⟨_,rfl,h9,?_⟩
    have:ad.add i=⟨(ad.add i).block,(ad.add i).off,none⟩:=by
     obtain⟨b,o,s⟩:∃ b o,ad.add i=⟨b,o,none⟩:=by
      generalize ad.add i=A at h9
      obtain⟨b,o,s⟩:=A
      simp only at h9
      subst h9
      exact⟨b,o,rfl⟩
     rw[s]
    rw[←this,h8]
    simp[hcv]
   obtain⟨a0,e0,s0,c0⟩:=get 0 (by simp)
   have hadd:ad.add 0=ad:=by simp[Addr.add]
   rw[hadd]at e0
   subst e0
   obtain⟨b,o,s⟩:=a0
   simp only at s0
   subst s0
   refine⟨b,o,rfl,fun i hi=>?_⟩
   obtain⟨a1,e1,s1,c1⟩:=get i hi
   have:a1.block=b∧a1.off=o+i:=by
    subst e1
    unfold Addr.add
    split
    ·rename_i h0;subst h0;exact⟨rfl,rfl⟩
    ·exact⟨rfl,rfl⟩
   rw[this.1,this.2]at c1
   exact c1
theorem MX {W:World} {l:List (String×DataW Unit)} (h:laidMetH Tryd.prog l W) (hm:("seesaw/event.kinds",Rows.laid_seesaw_event_kinds)∈l):bn W:=by
 obtain⟨g,t,cs,fuel,p,hg,ht,hv,hd⟩:=h.funcs hm
 obtain rfl:=Option.some.inj (TJ.symm.trans hg)
 obtain rfl:=Option.some.inj (RZ.symm.trans ht)
 have hd':=hd.trans (congrArg (fun d=>some (d,p)) SK)
 obtain⟨xs,m,rfl,hx,hlen,hxs,hel⟩:=DataW.trod_array Tryd.underlying133 hd'
 rw[KG]at hel
 have h28:cs.size=28:=by rw[←Array.length_toList,hlen];exact Hr
 simp only[Prod.mk.injEq,DataW.agg.injEq]at hx
 intro k fs hk
 have Ny:k < 14:=(List.getElem?_eq_some_iff.1 hk).1
 have h1:=hel k Ny
 rw[List.getElem?_eq_getElem (by omega)]at h1
 have h2:=congrArg (fun l:List (DataW (List UInt8))=>l[k]?) hx.1
 simp only[List.getElem?_map,List.getElem?_range Ny,Option.map_some,List.getElem?_eq_getElem (by omega:k < xs.length),Option.some.injEq]at h2
 obtain⟨ys,n,rfl,hy,aac,hys,Ye⟩:=DataW.trod_struct Tryd.underlying132 h1
 have h3:=Ye 1 _ rfl
 rw[hy]at h2
 simp only[DataW.agg.injEq]at h2
 match ys,hys with
 | [y0,y1],_=>
 simp only[List.map_cons,List.map_nil,List.cons.injEq,and_true]at h2
 have hgk:Ci.getD k []=fs:=by rw[List.getD_eq_getElem?_getD,hk];rfl
 rw[hgk]at h2
 have hk2:k*2+1 < cs.toList.length:=by rw[Array.length_toList,h28];omega
 have h4:((cs.toList.drop (k*2)).take 2).drop 1=[cs.toList[k*2+1]]:=by
  rw[List.drop_take,List.drop_drop,List.drop_eq_getElem_cons hk2]
  rfl
 simp only[List.getElem?_cons_succ,List.getElem?_cons_zero]at h3
 have h3':DataW.trod (funcToken Tryd.prog) Tryd.prog W 0 (fun _=>true) true n 131 ((((cs.toList.drop (k*2)).take 2).drop 1).take (Tryd.prog.cellsOf 131))=some y1:=h3
 rw[Hl,h4]at h3'
 have h5:DataW.trod (funcToken Tryd.prog) Tryd.prog W 0 (fun _=>true) true n 131 [cs.toList[k*2+1]]=some (GU fs,y1.2):=by
  rw[show(GU fs,y1.2)=y1 from Prod.ext h2.2 rfl];exact h3'
 have hall:∀ gs∈Ci,∀ f∈gs,f∈Vt.map (·.1):=by decide
 obtain⟨a,cap,e1,e2,e3⟩:=TD (hall fs (List.mem_of_getElem? hk)) h5
 refine⟨a,cap,?_,e2,e3⟩
 rw[World.var?_cell hg hv (k*2+1),Array.getElem?_eq_getElem (by rw[h28];omega),←Array.getElem_toList,e1]
theorem ba_eq (s:ByteArray) (l:List UInt8) (h:s.data.toList=l):s=⟨l.toArray⟩:=by
 obtain⟨⟨d⟩⟩:=s
 simp only at h
 subst h
 rfl
theorem NZ:Tryd.prog.cellsOf 9=1:=by kernel_rfl
theorem TI:Tryd.prog.globalNamed "seesaw/seesawref12.names" =some 1:=by kernel_rfl
theorem RY:(Tryd.prog.globals[1]?).map (·.type)=some 136:=by kernel_rfl
theorem Hq:Tryd.prog.cellsOf 136=14:=by kernel_rfl
theorem SC:(Rows.laid_seesaw_seesawref12_names:DataW Unit)=.agg (lu.map fun l=>.lit (.string l)):=by kernel_rfl
theorem JQ {W:World} {l:List (String×DataW Unit)} (h:laidMetH Tryd.prog l W) (hm:("seesaw/seesawref12.names",Rows.laid_seesaw_seesawref12_names)∈l):kL W:=by
 obtain⟨g,t,cs,fuel,p,hg,ht,hv,hd⟩:=uV h hm (by kernel_rfl)
 obtain rfl:=Option.some.inj (TI.symm.trans hg)
 obtain rfl:=Option.some.inj (RY.symm.trans ht)
 rw[SC]at hd
 obtain⟨xs,m,rfl,hx,hlen,hxs,hel⟩:=DataW.trod_array Tryd.underlying136 hd
 rw[NZ]at hel
 have OV:cs.size=14:=by rw[←Array.length_toList,hlen];exact Hq
 simp only[Prod.mk.injEq,DataW.agg.injEq]at hx
 intro k Ny
 have h1:=hel k Ny
 rw[List.getElem?_eq_getElem (by omega)]at h1
 have h2:=congrArg (fun l:List (DataW Unit)=>l[k]?) hx.1
 simp only[List.getElem?_map,List.getElem?_eq_getElem (by omega:k < xs.length),Option.map_some]at h2
 have hkn:lu[k]? =some (lu.getD k []):=by
  rw[List.getD_eq_getElem?_getD,List.getElem?_eq_getElem (by exact Ny)];rfl
 rw[hkn]at h2
 simp only[Option.map_some,Option.some.injEq]at h2
 have hk2:k < cs.toList.length:=by rw[Array.length_toList,OV];omega
 have h4:(cs.toList.drop (k*1)).take 1=[cs.toList[k]]:=by
  rw[Nat.mul_one,List.drop_eq_getElem_cons hk2]
  rfl
 rw[h4]at h1
 obtain⟨s,e1,e2,-⟩:=DataW.trod_string Tryd.underlying9 h1
 rw[e2]at h2
 simp only[DataW.lit.injEq,Lit.string.injEq]at h2
 simp only[List.cons.injEq,and_true]at e1
 rw[World.var?_cell hg hv k,Array.getElem?_eq_getElem (by rw[OV];omega),←Array.getElem_toList,e1,ba_eq s _ h2.symm]
 rfl
theorem zu (os:Os) (args:Array Value):laidMetH Tryd.prog Rows.shapeChecksRow.laid ((World.doorLaid Tryd.prog 48 os).forCall (fun _ _=>0) ⟨#[],args,[]⟩).memory:=
 laidMetH_of_parts3 (fuel:=8) (laidMet_of_run' 8 (by kernel_rfl) (by kernel_rfl)) (by kernel_rfl) (by kernel_rfl)
end Go.Proofs.YtcddlnmcjmhbcaaDoor
-- short
