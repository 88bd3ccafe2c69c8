/-
  Joined texts: CopyM ShR ShS.
-/
import Derived.Laws.CopyOwn
import Derived.Test.YtcddlnmcjmhbcaaDoorRgG
import Derived.Test.YtcddlnmcjmhbcaaDoorShC
namespace Go.Proofs.YtcddlnmcjmhbcaaDoor
set_option linter.unusedVariables false
open Go Go.RowKit
theorem tC {P:Program} (m:Nat) (w:World) (dT sT ty elem:TypeId) (g o dLen dCap:Nat) (a:Addr) (sLen sCap:Nat) (cur:Array Value) (t:TypeId) (cs:List Value) (k:Nat)
    (hu:P.underlying dT=some (.slice elem)) (hs:(P.info? elem).map (·.size)=some m)
    (hg:w.heap[g]? =some (.cells cur t (0,0))) (hk:Nat.min sLen dLen=k) (hn:cs.length=k*m)
    (hsrc:∀ j v,cs[j]? =some v→w.cell? (a.add j)=some v) (hfit:o+cs.length≤cur.size) (h1:∀ v∈cs,v.oneCell'=true):
    (Builtin.copy_ #[dT,sT] ty #[.slice (some ⟨g,o,none⟩) dLen dCap,.slice (some a) sLen sCap]).run P w=
      .ok (goInt k) (w.setRow g (cur.toList.take o++cs++cur.toList.drop (o+cs.length)).toArray):=by
  have hl:=run_loadCells_list (P:=P) w a cs hsrc
  have hst:=run_storeCells_at P g o t cs 0 cur w hg (by simpa using hfit) h1
  rw[hn]at hl
  cases hq:P.info? elem with
  | none=>simp[hq]at hs
  | some i=>
    have hi:i.size=m:=by simpa[hq]using hs
    simp[Builtin.copy_,run_underlying hu,Builtin.lenOf,Builtin.firstCells,sizeOf,typeInfo,hq,hi,hk,hl,hst]
theorem vO {P:Program} (m:Nat) {w:World} {ops:Array Oper} {rest:List Oper} {o:Oper} {a:Act} {Q:Exit→Act→World→Prop} (hgd:o.guard=none) (d s:Operand) (dT sT:TypeId)
    (ho:o.op=.call { callee:=.builtin .copy,args:=#[d,s],argTypes:=#[dT,sT] }) (elem:TypeId) (hu:P.underlying dT=some (.slice elem)) (hsz:(P.info? elem).map (·.size)=some m)
    (dLen dCap sLen sCap:Nat) (g off:Nat) (ad:Addr) (hd:a.eval d=.slice (some ⟨g,off,none⟩) dLen dCap) (hs:a.eval s=.slice (some ad) sLen sCap)
    (cur:List Value) (t:TypeId) (hg:w.heap[g]? =some (.cells cur.toArray t (0,0))) (cs:List Value) (k:Nat) (hk:Nat.min sLen dLen=k) (hn:cs.length=k*m)
    (hsrc:∀ j v,cs[j]? =some v→w.cell? (ad.add j)=some v)
    (hfit:off+cs.length≤cur.length) (h1:∀ v∈cs,v.oneCell'=true) (B:Nat) (w0:World) (hb:Below B w0 w) (hBg:B≤g)
    (h:∀ w',Hid (aA w' g (splice cur off cs).toArray t)→Below B w0 w'→wpList P ops Q rest (a.put o.dst (goInt k)) w'):
    wpList P ops Q (o :: rest) a w:=by
  refine wpList_plain hgd fun K hK=>?_
  have hrun:=tC (P:=P) m w dT sT o.type elem g off dLen dCap ad sLen sCap cur.toArray t cs k hu hsz hg hk hn hsrc (by simpa using hfit) h1
  unfold Oper.wp
  simp[execOp,ho,resolve,invoke,builtin,hd,hs,hrun,Result.andThen]
  exact hK _ _ (h _ (show _=_ by simpa[splice]using setRow_heap w g _ _ t _ hg) (below_setRow hb hBg _))
set_option maxRecDepth 100000 in
set_option maxHeartbeats 4000000 in
theorem JS (n:Nat) (w:World) (hn:n≤32):Calls Tryd.prog 75 #[.int .u64 1,.int .u64 (n:Int)] w fun e w'=>e=.returned (.tuple #[.int .u64 0,.int .u64 (n:Int)])∧w=w':=by
  have h1:(n:Int)≤32:=by omega
  have h0:(0:Int)≤(n:Int):=by omega
  have ha:bits .and .u64 (n:Int) 4294967295=(n:Int):=by
    rw[show(4294967295:Int)=((4294967295:Nat):Int)from rfl,u64_and_nat n 4294967295 (by omega) (by omega)]
    congr 1
    rw[show(4294967295:Nat)=2 ^ 32-1 from rfl,Nat.and_two_pow_sub_one_eq_mod]
    omega
  have hb:bits .and .u64 1 4294967295=1:=by decide
  have hz:bits .and .u64 0 4294967295=0:=by decide
  have hd:(n:Int) / 4294967296=0:=by omega
  have hw1:IntKind.u64.wrap (n:Int)=(n:Int):=by rw[IntKind.wrap_u64];omega
  clear hn
  go_enter Tryd.func75,Tryd.ntmps75
  go_wp2
  go_ret2
  exact⟨rfl,rfl⟩
theorem EC {w:World} {p:Addr} {v:Value} {x:Obj} (h:w.cell? p=some v):(w.alloc x).cell? p=some v:=by
  rw[(ah (af w) x).cell (p:=p)]
  · exact h
  · obtain⟨b,o,s⟩:=p
    unfold World.cell? at h
    rcases Nat.lt_or_ge b w.heap.size with h' | h'
    · exact h'
    · simp[Array.getElem?_eq_none h']at h
theorem sO (z:Array Value) (m n:Nat) (hm:z.size=m) (hm0:0 < m):madeCells z (n*m)=fH (List.replicate n z.toList):=by
  subst hm
  apply Array.ext
  · simp[madeCells,fH]
  · intro i h1 h2
    have hi:i < n*z.size:=by simpa[madeCells]using h1
    have hq:i / z.size < n:=Nat.div_lt_of_lt_mul (by rw[Nat.mul_comm];exact hi)
    have hr:i % z.size < z.size:=Nat.mod_lt _ hm0
    have e:i / z.size*z.size+i % z.size=i:=by rw[Nat.mul_comm];exact Nat.div_add_mod i z.size
    have h3:=wI (m:=z.size) (rows:=List.replicate n z.toList) (by intro r hr;rw[List.eq_of_mem_replicate hr];simp) (i / z.size) (i % z.size) (by simpa using hq) hr
    rw[e,Array.getElem?_eq_getElem h2]at h3
    simp only[List.getElem_replicate,Array.getElem?_toList]at h3
    rw[Array.getElem?_eq_getElem hr]at h3
    rw[Option.some.inj h3]
    simp only[madeCells,Array.getElem_map,Array.getElem_range]
    exact getElem!_pos z (i % z.size) hr
theorem SN:(Tryd.prog.info? 83).map (fun i=>(i.zero,i.size,i.bytes))=some (some (.agg #[.int .i64 0,.int .i64 0]),2,16):=by kernel_rfl
theorem SL:(Tryd.prog.info? 93).map (fun i=>(i.zero,i.size,i.bytes))=some (some (.agg #[.int .i64 0,.int .i64 0,.int .i64 0,.int .i64 0,.int .i64 0,.int .i64 0,.int .u32 0,.int .u32 0,.int .u32 0,.int .u32 0,.int .i64 0,.int .i64 0,.bool false]),13,88):=by kernel_rfl
theorem L6 (W:World) (n:Nat) (hn:n≤32):(Instr.makeSlice 80 (.int .i64 (n:Int)) (.int .i64 (n:Int))).run Tryd.prog W=.ok (.slice (some ⟨W.heap.size,0,none⟩) n n) (W.alloc (.cells (fH (List.replicate n (lU (0,0)))) 83)):=by
  obtain⟨i0,hi,hz0,hz1,hz2⟩:=info_parts SN
  rw[run_make W 80 83 i0 _ Tryd.underlying80 hi hz0 .i64 .i64 n n (by omega) (by omega) (by rw[hz2];omega) (by omega),hz1]
  simp only[Int.toNat_natCast]
  rw[sO _ 2 n rfl (by omega)];rfl
theorem LZ (W:World) (n:Nat) (hn:n≤6):(Instr.makeSlice 79 (.int .i64 (n:Int)) (.int .i64 (n:Int))).run Tryd.prog W=.ok (.slice (some ⟨W.heap.size,0,none⟩) n n) (W.alloc (.cells (fH (List.replicate n (vU Th.zero))) 93)):=by
  obtain⟨i0,hi,hz0,hz1,hz2⟩:=info_parts SL
  rw[run_make W 79 93 i0 _ Tryd.underlying79 hi hz0 .i64 .i64 n n (by omega) (by omega) (by rw[hz2];omega) (by omega),hz1]
  simp only[Int.toNat_natCast]
  rw[sO _ 13 n rfl (by omega)];rfl
theorem BI {α:Type} (a b:Nat) (x:α):List.replicate (a+b) x=List.replicate a x++List.replicate b x:=(List.replicate_append_replicate).symm
def BC (m n:Nat):List (List Value):=List.replicate m (lU (-1,0))++List.replicate (n-m) (lU (0,0))
theorem lN (k:Nat) (p:Int×Int):(List.replicate k (lU p)).flatten.length=k*2:=by
  induction k with
  | zero=>rfl
  | succ k ih=>rw[List.replicate_succ,List.flatten_cons,List.length_append,ih];simp[lU];omega
theorem Ph (m n:Nat) (h:m≤n):(BC m n).flatten.length=n*2:=by
  unfold BC;rw[List.flatten_append,List.length_append,lN,lN];omega
theorem FV (A B C D:List Value) (o:Nat) (ho:A.length=o) (hd:B.length=D.length):splice (A++(B++C)) o D=A++(D++C):=by
  subst ho
  unfold splice
  rw[List.take_left' rfl,←List.append_assoc A B C,List.drop_left' (by rw[List.length_append,hd])]
theorem yg (m k n:Nat) (h:m+k≤n):splice (BC m n).flatten (m*2) (List.replicate k (lU (-1,0))).flatten=(BC (m+k) n).flatten:=by
  have e1:n-m=k+(n-(m+k)):=by omega
  have e2:(BC m n).flatten=(List.replicate m (lU (-1,0))).flatten++((List.replicate k (lU (0,0))).flatten++(List.replicate (n-(m+k)) (lU (0,0))).flatten):=by
    unfold BC;rw[e1,BI];simp only[List.flatten_append]
  have e3:(BC (m+k) n).flatten=(List.replicate m (lU (-1,0))).flatten++((List.replicate k (lU (-1,0))).flatten++(List.replicate (n-(m+k)) (lU (0,0))).flatten):=by
    unfold BC;rw[BI];simp only[List.flatten_append,List.append_assoc]
  rw[e2,e3]
  exact FV _ _ _ _ _ (lN _ _) (by rw[lN,lN])
theorem Pg (k:Nat):∀ v∈(List.replicate k (lU (-1,0))).flatten,v.oneCell'=true:=by
  intro v hv
  obtain⟨r,hr,hv⟩:=List.mem_flatten.1 hv
  rw[List.eq_of_mem_replicate hr]at hv
  simp only[lU,List.mem_cons,List.not_mem_nil,or_false]at hv
  rcases hv with rfl | rfl <;> rfl
theorem LX {w:World} {g m n:Nat} (hb:aA w g (fH (BC m n)) 83) (k:Nat) (hk:k≤m):∀ j v,(List.replicate k (lU (-1,0))).flatten[j]? =some v→w.cell? ((⟨g,0,none⟩:Addr).add j)=some v:=by
  intro j v hv
  have hj:j < (List.replicate k (lU (-1,0))).flatten.length:=(List.getElem?_eq_some_iff.1 hv).1
  have ha:(⟨g,0,none⟩:Addr).add j=⟨g,j,none⟩:=by unfold Addr.add;split <;> simp_all
  rw[ha]
  refine hb.cell j ?_
  unfold fH BC
  have e:m=k+(m-k):=by omega
  rw[e,BI]
  simp only[List.flatten_append,List.getElem?_toArray,List.append_assoc]
  rw[List.getElem?_append_left hj]
  exact hv
set_option maxRecDepth 100000 in
set_option maxHeartbeats 1000000 in
theorem F7 (x n:Nat) (w:World) (h0:w.cell? ⟨x,0,none⟩=some (.int .i64 (-1))) (h1:w.cell? ⟨x,1,none⟩=some (.int .i64 0)) (hn:1≤n) (hn2:n≤32):
    Calls Tryd.prog 39 #[.slice (some ⟨x,0,none⟩) 1 1,.int .i64 (n:Int)] w fun e w'=>e=.returned (.slice (some ⟨w.heap.size,0,none⟩) n n)∧Below w.heap.size w w'∧aA w' w.heap.size (fH (List.replicate n (lU (-1,0)))) 83:=by
  have g1:(1:Int)≤(n:Int):=by omega
  have g2:(n:Int)≤32:=by omega
  have HM:=hid (fun w=>JS n w hn2)
  have hmk:=fun W=>L6 W n hn2
  have k1:decide ((9223372036854775807:Int) < (n:Int))=false:=by rw[decide_eq_false_iff_not];omega
  have k2:decide ((n:Int) < 0)=false:=by rw[decide_eq_false_iff_not];omega
  have g0:1≤n:=hn
  clear hn hn2
  go_enter Tryd.func39,Tryd.ntmps39
  go_wp2_with fail
  refine(HM.out _).mono ?_
  rintro e' w1 ⟨rfl,rfl⟩
  have hsz:(Tryd.prog.info? 83).map (·.size)=some 2:=by kernel_rfl
  have vK:=hid hsz
  have RQ:=hid (aA.new w (fH (List.replicate n (lU (0,0)))) 83)
  have zL:=hid (ah (af w) (.cells (fH (List.replicate n (lU (0,0)))) 83))
  have hcs:∀ j v,[Value.int .i64 (-1),Value.int .i64 0][j]? =some v→w.cell? ((⟨x,0,none⟩:Addr).add j)=some v:=by
    intro j v hv
    match j,hv with
    | 0,hv=>simp at hv;subst hv;exact h0
    | 1,hv=>simp at hv;subst hv;exact h1
  have HCS:=hid (fun j v hv=>EC (x:=.cells (fH (List.replicate n (lU (0,0)))) 83) (hcs j v hv))
  have HN:=hid (show Nat.min 1 n=1 from Nat.min_eq_left g0)
  have Bo:=hid (show 0+[Value.int .i64 (-1),Value.int .i64 0].length≤(List.replicate n (lU (0,0))).flatten.length by rw[lN];simp;omega)
  clear hsz hcs
  go_wp2_with (refine vO 2 rfl (.tmp 31) (.tmp 32) 80 80 rfl 83 Tryd.underlying80 vK.out n n 1 1 w.heap.size 0 ⟨x,0,none⟩ rfl rfl (List.replicate n (lU (0,0))).flatten 83 RQ.out [.int .i64 (-1),.int .i64 0] 1 HN.out rfl HCS.out Bo.out (by simp[Value.oneCell']) w.heap.size w zL.out (Nat.le_refl _) ?_;intro w1 HB1 hb1)
  have HB2:Hid (aA w1 w.heap.size (fH (BC 1 n)) 83):=by
    have:=yg 0 1 n (by omega)
    have e0:(BC 0 n)=List.replicate n (lU (0,0)):=by simp[BC]
    rw[e0]at this
    refine hid ?_
    have h1:=HB1.out
    rw[show[Value.int .i64 (-1),Value.int .i64 0]=(List.replicate 1 (lU (-1,0))).flatten by rfl]at h1
    simpa[fH,←this]using h1
  have HB0:=hid hb1
  have N0:=hid g0
  have HMS:=vK
  clear HB1 hb1 g0 hmk RQ zL HCS HN Bo
  go_loopw [8] (fun i wr=>∃ m:Nat,1≤m∧m≤n∧i=.int .i64 m∧Hid (aA wr w.heap.size (fH (BC m n)) 83)∧Below w.heap.size w wr) (fun i _=>n-(intOf i).toNat)
  case atStart=>exact⟨1,Nat.le_refl _,N0.out,rfl,HB2,HB0.out⟩
  case round=>
    obtain⟨m,hm1,hmn,rfl,Xd,hb⟩:=hrel
    by_cases hlt:m < n
    · have j1:decide ((m:Int) < (n:Int))=true:=by rw[decide_eq_true_iff];omega
      have j2:(0:Int)≤(m:Int):=by omega
      have j3:(m:Int)≤(n:Int):=by omega
      have j4:(n=m)=False:=by rw[eq_iff_iff,iff_false];omega
      have hmin:Nat.min m (n-m)=m∨Nat.min m (n-m)=n-m:=by
        rcases Nat.le_total m (n-m)with h | h
        · exact .inl (Nat.min_eq_left h)
        · exact .inr (Nat.min_eq_right h)
      obtain⟨k,hk,hk1,hk2⟩:∃ k,Nat.min m (n-m)=k∧1≤k∧m+k≤n:=by
        rcases hmin with h | h
        · have h2:m≤n-m:=by have:=Nat.min_le_right m (n-m);rw[show min m (n-m)=m from h]at this;exact this
          exact⟨m,h,hm1,by omega⟩
        · exact⟨n-m,h,by omega,by omega⟩
      have j5:IntKind.i64.wrap ((m:Int)+(k:Int))=(m:Int)+(k:Int):=IntWalk.i64_in _ (by omega)
      have hkm:k≤m:=by
        have:=Nat.min_le_left m (n-m);rw[show min m (n-m)=k from hk]at this;exact this
      have HK:=hid hk
      have QL:=hid (And.intro hk1 hk2)
      have ZU:=hid (show m*2+(List.replicate k (lU (-1,0))).flatten.length≤(BC m n).flatten.length by rw[lN,Ph m n hmn];omega)
      have Xb:=hid (LX Xd.out k hkm)
      have HB0:=hid hb
      have hcp:∃ W5,((Builtin.copy_ #[80,80] 3 #[.slice (some ⟨w.heap.size,m*2,none⟩) (n-m) (n-m),.slice (some ⟨w.heap.size,0,none⟩) m n]).run Tryd.prog wr.drew=.ok (goInt k) W5)∧Hid (aA W5 w.heap.size (fH (BC (m+k) n)) 83)∧Below w.heap.size w W5:=by
        refine⟨_,tC 2 wr.drew 80 80 3 83 w.heap.size (m*2) (n-m) (n-m) ⟨w.heap.size,0,none⟩ m n (BC m n).flatten.toArray 83 (List.replicate k (lU (-1,0))).flatten k Tryd.underlying80 vK.out Xd.out hk (lN _ _) Xb.out (by simpa using ZU.out) (Pg k),hid ?_,below_setRow (aj hb) (Nat.le_refl _) _⟩
        have e:=yg m k n hk2
        unfold fH
        rw[←e]
        exact(show _=_ by simpa[splice]using setRow_heap wr.drew w.heap.size _ (splice (BC m n).flatten (m*2) (List.replicate k (lU (-1,0))).flatten).toArray 83 _ Xd.out)
      obtain⟨W5,hcp,qN,hb5⟩:=hcp
      have UR:=hid hb5
      unfold goInt at hcp
      clear hb hk hk1 hk2 hkm hmin hb5
      go_wp2_with fail
      go_region_law fail
      all_goals go_simp
      all_goals go_wp2_with fail
      all_goals go_roundw
      case rel=>exact⟨m+k,by omega,QL.out.2,by simp,qN,UR.out⟩
      all_goals (have:=QL.out;simp[intOf];omega)
    · obtain rfl:m=n:=by omega
      have j1:decide ((m:Int) < (m:Int))=false:=by rw[decide_eq_false_iff_not];omega
      have UO:Hid (aA wr w.heap.size (fH (List.replicate m (lU (-1,0)))) 83):=by
        have:=Xd.out;simpa[BC]using hid this
      have HB0:=hid hb
      clear hb Xd
      go_wp2_with fail
      go_ret
      exact⟨rfl,HB0.out,UO.out⟩
set_option maxRecDepth 100000 in
set_option maxHeartbeats 4000000 in
set_option maxRecDepth 100000 in
theorem PV (T V S:Int) (w:World) (hb:¬ (0≤T∧T≤6∧1≤V∧V≤32∧1≤S∧S≤V)):
    Calls Tryd.prog 21 #[.int .i64 T,.int .i64 V,.int .i64 S] w fun e w'=>e=.returned (.tuple #[.pointer none,.int .i64 1])∧w=w':=by
  by_cases h1:T < 0 <;> by_cases h2:6 < T <;> by_cases h3:V < 1 <;> by_cases h4:32 < V <;> by_cases h5:S < 1 <;> by_cases h6:V < S <;> first
    | (exfalso;omega)
    | (clear hb
       go_enter Tryd.func21,Tryd.ntmps21
       go_wp2
       go_ret2
       exact⟨rfl,rfl⟩)
end Go.Proofs.YtcddlnmcjmhbcaaDoor
-- short
