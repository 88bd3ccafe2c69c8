/-
  The law SliceTells: for every input the call returns true, and every argument reads as before. Conditions: none but the row's own (the tables that it reads are tied to the program's text by the card).
-/
import Derived.Test.YtcddlnmcjmhbcaaDoorCards
import Derived.Test.YtcddlnmcjmhbcaaDoorTie
import Derived.Test.YtcddlnmcjmhbcaaDoorRcLaid
import Derived.Test.YtcddlnmcjmhbcaaDoorShOpen
import Derived.Test.YtcddlnmcjmhbcaaDoorSgS
namespace Go.Proofs.YtcddlnmcjmhbcaaDoor.sliceTells
set_option linter.unusedVariables false
open Go Go.RowKit Go.ChangeShapes Go.WideShapes Go.ChangeAt
set_option maxRecDepth 100000 in
theorem contract (H:Type) (enc:TypeId×Value→H) (W:World) (base:Nat) (args:Array Value) (ds gs:List (DataW H)) (before:List MemPlace)
  (hval:∀ (j:Nat) t v,Tryd.f5.params[j]? =some t→args[j]? =some v→Value.okWide Tryd.prog W .any base t v)
  (hW:DataW.Whole enc Tryd.prog Tryd.f5.params.toList Rows.sliceTellsSpec.vars false W args.toList ds gs before) (hz:(DataW.weightsEach Tryd.prog (Tryd.f5.params.toList++Rows.sliceTellsSpec.plain.varTypes Tryd.prog) (ds++gs)).all (·≤reachBytes)=true) (hL:laidMetH Tryd.prog Rows.sliceTellsRow.laid W):
  Calls Tryd.prog 5 args W fun e W'=>∃ v,e=.returned v∧Rows.sliceTellsSpec.post enc Tryd.prog Tryd.f5 false true false false W args v W':=by
 have hW':=hW
 have hT:gJ W:=RX hL (List.mem_cons_self ..)
 have hN:kL W:=JQ hL (List.mem_cons_of_mem _ (List.mem_cons_self ..))
 have hK:bn W:=MX hL (List.mem_cons_of_mem _ (List.mem_cons_of_mem _ (List.mem_cons_self ..)))
 obtain⟨p,q,hA0,hV,rfl,hfz,hnd⟩:=hW
 have hA:DataW.TrodAll enc Tryd.prog W 0 (fun _=>true) true Tryd.f5.params.toList args.toList ds p:=hA0
 rw[Tryd.params5]at hA hval
 obtain⟨v0,vs0,d0,ds0,p0,q0,hargs,rfl,rfl,h0,r0⟩:=trodAll_cons hA
 obtain⟨v1,vs1,d1,ds1,p1,q1,rfl,rfl,rfl,h1,r1⟩:=trodAll_cons r0
 obtain⟨v2,vs2,d2,ds2,p2,q2,rfl,rfl,rfl,h2,r2⟩:=trodAll_cons r1
 obtain⟨rfl,rfl,rfl⟩:=trodAll_nil r2
 obtain rfl:args=#[v0,v1,v2]:=by cases args;simp_all
 obtain⟨rfl,rfl⟩:=trodVars_none hV
 obtain⟨a0,ha0,hw0⟩:=JG (hval 0 29 v0 rfl rfl) h0
 have hx0:=hw0 (fun n hn=>by
  have:=List.all_eq_true.1 hz n (DataW.weights_mem_each (j:=0) (t:=29) (d:=d0) (by rfl) (by rfl) n hn)
  simpa using this)
 have hy0:∀ x∈a0,x.reads.length≤8796093022208∧x.writes.length≤8796093022208:=fun x hx=>by
  have:=hx0 x hx
  have e:reachBytes=140737488351232:=rfl
  rw[e]at this
  omega
 obtain⟨T1,V1,S1,a1,l1,cap1,rfl,n1,u1,m1,rd1⟩:=PT (hval 1 24 v1 rfl rfl) h1
 obtain⟨a2,ha2⟩:=JF (hval 2 32 v2 rfl rfl) h2
 refine(yh a0 T1 V1 S1 a1 l1 cap1 a2 W v0 v2 ha0 hy0 ha2 u1 rd1 hK hT hN).mono fun e W' ⟨he,hg⟩=>?_
 subst he
 exact⟨_,rfl,MS Gp (by decide+kernel) rfl rfl Tryd.underlying4 rfl rfl rfl hW' hg⟩
set_option maxRecDepth 100000 in
theorem lifted (os:Os) (started:os.Started) (H:Type) (enc:TypeId×Value→H):
  ReturnsInHanded {} Tryd.checked os 5 .any (fun w args=>(Rows.sliceTellsSpec.pre enc Tryd.prog Tryd.f5 [] false w args∧laidMetH Tryd.prog Rows.sliceTellsRow.laid w)∧sizedMet enc Tryd.prog Tryd.f5 (OpenSpec.ofChange Rows.sliceTellsSpec) false w args)
   (Rows.sliceTellsSpec.post enc Tryd.prog Tryd.f5 false true false false):=by
 refine returnsInHanded_of_change_and (C:=Tryd.checked) (X:=fun w _=>laidMetH Tryd.prog Rows.sliceTellsRow.laid w) (fun _ _ _ hh h=>h.of_heap hh) BP started (by kernel_rfl) Tryd.func5
  (ChangeSpec.witness_shaped (enc:=enc) (C:=Tryd.checked) (os:=os) (X:=fun w _=>laidMetH Tryd.prog Rows.sliceTellsRow.laid w) false (World.doorLaid Tryd.prog 48 os) #[.slice none 0 0,.agg #[.int .i64 0,.int .i64 0,.int .i64 0,.slice none 0 0],.slice none 0 0] 8 rfl (World.shaped_of_RefB (by kernel_rfl) (by kernel_rfl)) (by kernel_rfl) (by kernel_rfl) (by kernel_rfl) (zu os _)) ?_
 intro W base args ds gs before hval0 hW _ hz hL _
 exact contract H enc W base args ds gs before hval0 hW hz hL
theorem said:Rows.SliceTellsSaid:=
 OpenClaim.holds_of_wide 5 Tryd.f5 rfl rfl rfl rfl rfl rfl rfl ⟨rfl,rfl,rfl,rfl,rfl⟩ rfl rfl rfl rfl rfl (by kernel_rfl) Tryd.func5 (by kernel_rfl)
  (of_decide_eq_true (by kernel_rfl)) (by unfold Func.isWrapper;first | (rw[if_pos (by decide+kernel)];kernel_rfl) | (rw[if_neg (by decide+kernel)];exact⟨rfl,rfl⟩))
  (fun os started H enc _=>lifted os started H enc)
theorem plain (f:FuncId) (fn:Func) (hf:Tryd.pinned.checked.prog.funcNamed "seesaw/seesawlaw29.SliceTells" =some f) (hfn:Tryd.pinned.checked.prog.funcs[f]? =some fn):
  false=Tryd.pinned.checked.prog.looks []∧∀ (j:Nat) t,fn.params[j]? =some t→Tryd.pinned.checked.prog.wantsStandIn t=false:=by
 obtain rfl:f=5:=Option.some.inj ((show Tryd.prog.funcNamed "seesaw/seesawlaw29.SliceTells" =some 5 by kernel_rfl).symm.trans hf) |>.symm
 obtain rfl:fn=Tryd.f5:=(Option.some.inj (Tryd.func5.symm.trans hfn)).symm
 refine⟨by kernel_rfl,fun j t ht=>?_⟩
 rw[Tryd.params5]at ht
 have hall:∀ t∈#[29,24,32],Tryd.prog.wantsStandIn t=false:=by decide+kernel
 exact hall t (Array.mem_of_getElem? ht)
theorem card:Rows.SliceTellsCardSaid:=
 Claim7.holds_tied_plain_at .later [] _ _ _ _ said (fun _ h=>by cases h) (by kernel_rfl) (fun _ h=>by cases h) sliceTells_row_tie rfl ⟨rfl,rfl⟩ (by kernel_rfl) rfl plain (by kernel_rfl)
end Go.Proofs.YtcddlnmcjmhbcaaDoor.sliceTells
-- short
