/-
  Joined texts: RegL RcM0 RcM1.
-/
import Derived.Test.YtcddlnmcjmhbcaaDoorRgB
import Derived.Test.YtcddlnmcjmhbcaaDoorRcW4
import Derived.Test.YtcddlnmcjmhbcaaDoorRgE
import Derived.Deep.CutBlock
namespace Go.Proofs.YtcddlnmcjmhbcaaDoor
set_option linter.unusedVariables false
open Go
section
variable {P:Program} {ops:Array Oper} {Q:Exit→Act→World→Prop}
theorem F8 (hb:bI ops=true) {listed:Array Bool} {k:Nat} (hls:listed.size=ops.size) (hl:∀ i,listed.getD i false=decide (i < k)) (hk:k < ops.size):k∈Region.ready .any ops listed:=by
  unfold bI at hb
  rw[Bool.and_eq_true]at hb
  obtain⟨h,-⟩:=hb
  have hkl:k < listed.size:=by omega
  have hk0:listed.getD k true=false:=by
    have:=hl k
    simp only[Array.getD,hkl,dite_true]at this⊢
    rw[this];simp
  obtain⟨o,ho⟩:∃ o,ops[k]? =some o:=⟨_,Array.getElem?_eq_getElem hk⟩
  have he:=List.all_eq_true.1 h k (List.mem_range.2 hk)
  rw[ho]at he
  unfold Region.ready
  rw[List.mem_filter]
  refine⟨List.mem_range.2 hk,?_⟩
  rw[hk0,ho]
  simp only[Bool.not_false,Bool.true_and,Option.map_some,Option.getD_some]
  rw[Array.all_eq_true_iff_forall_mem]at he⊢
  intro e hem
  have:=he e hem
  rw[Bool.or_eq_true]at this⊢
  rcases this with h1 | h1
  · exact Or.inl h1
  · right;rw[hl];exact h1
theorem FH (hb:bI ops=true):∀ (fuel k:Nat) (listed:Array Bool) (a:Act) (w:World),fuel+k=ops.size→listed.size=ops.size→(∀ i,listed.getD i false=decide (i < k))→
    wpAny P .any ops Q fuel listed a w→wpOps P ops Q (List.range' k fuel) a w:=by
  intro fuel
  induction fuel with
  | zero=>intro k listed a w _ _ _ h;simpa[wpOps]using h.2
  | succ fuel ih=>
    intro k listed a w hs hls hl h
    rw[List.range'_succ,wpOps_cons]
    refine wpOp_mono (fun a w=>ih (k+1) _ a w (by omega) (by simpa using hls) (fun i=>?_)) (h.2 k (F8 hb hls hl (by omega)))
    have:=hl i
    by_cases hik:k=i
    · subst hik
      have hkl:k < listed.size:=by omega
      simp[Array.getD,hkl]
    · have h1:(listed.setIfInBounds k true).getD i false=listed.getD i false:=by
        simp only[Array.getD_eq_getD_getElem?,Array.getElem?_setIfInBounds,if_neg hik]
      rw[h1,this,Bool.eq_iff_iff,decide_eq_true_eq,decide_eq_true_eq]
      omega
theorem xY {id:Nat} {a:Act} {w:World} (hb:bI ops=true) (h:wpAny P .any ops Q ops.size (Array.replicate ops.size false) a w):(Code.region id ops false).wp P Q a w:=
  wp_region (by
    rw[List.range_eq_range']
    exact FH hb ops.size 0 _ a w (by omega) (by simp) (fun i=>by by_cases h:i < ops.size <;> simp[Array.getD,h]) h)
theorem xZ {F:Nat→Oper→Prop} {id:Nat} {a:Act} {w:World} (J:(Nat→Bool)→(Nat→Value)→World→Prop) (hd:bM ops=true) (hb:bI ops=true) (iR:fU ops=true)
    (hsz:(List.range ops.size).all (fun i=>match aB ops i with | some d=>decide (d < a.tmps.size) | none=>true)=true)
    (jf:∀ (l l':Nat→Bool) (v:Nat→Value) w,(∀ i,i < ops.size→l i=l' i)→J l v w→J l' v w)
    (h0:J (fun _=>false) (fun _=>undef) w)
    (hto:∀ i o,F i o→EM P ops J a i o)
    (hstep:bZ F 0 ops.toList)
    (hdone:∀ (vals:Nat→Value) w',J (fun _=>true) vals w'→Q .normal (ay ops vals (fun _=>true) a ops.size) w'):
    (Code.region id ops false).wp P Q a w:=by
  refine xY hb ?_
  have hf:∀ n,(Array.replicate ops.size false).getD n false=false:=by
    intro n
    by_cases h:n < ops.size <;> simp[Array.getD,h]
  have hnone:ay ops (fun _=>undef) (fun i=>(Array.replicate ops.size false).getD i false) a ops.size=a:=by
    have:∀ n,ay ops (fun _=>undef) (fun i=>(Array.replicate ops.size false).getD i false) a n=a:=by
      intro n
      induction n with
      | zero=>rfl
      | succ n ih=>
        have hfn:=hf n
        simp only[ay,hfn,Bool.false_eq_true,if_false];exact ih
    exact this _
  have:=vS hd iR J a hsz jf (fun i o jS=>by have:=bZ.get hstep i o (by simpa using jS);rw[Nat.zero_add]at this;exact hto i o this) hdone (pV hb)
    (fun listed' h1 h2 i hi=>oU hb h1 h2 (i+1) i (by omega) hi) ops.size (Array.replicate ops.size false) (fun _=>undef) w (by simp) (by
    have:=List.length_filter_le (fun i=>!(Array.replicate ops.size false).getD i true) (List.range ops.size)
    simpa using this) (jf _ _ _ _ (fun i _=>(hf i).symm) h0)
  rw[hnone]at this
  exact this
theorem kT {id:Nat} {a aF:Act} {w:World} (K:Nat→Value) (G:World→Prop) (hF:ay ops K (fun _=>true) a ops.size=aF) (hd:bM ops=true) (hb:bI ops=true) (iR:fU ops=true)
    (hsz:(List.range ops.size).all (fun i=>match aB ops i with | some d=>decide (d < a.tmps.size) | none=>true)=true)
    (h0:G w)
    (hstep:bZ (fun i o=>sD P ops K G a i o) 0 ops.toList)
    (hdone:∀ w',G w'→Q .normal aF w'):
    (Code.region id ops false).wp P Q a w:=by
  subst hF
  have hall:∀ (l:List Oper) (n:Nat),(∀ k o,l[k]? =some o→ops[n+k]? =some o)→bZ (fun i o=>sD P ops K G a i o) n l→bZ (fun i o=>ops[i]? =some o∧sD P ops K G a i o) n l:=by
    intro l
    induction l with
    | nil=>intro n _ _;trivial
    | cons x l ih=>
      intro n hk h
      refine⟨⟨by simpa using hk 0 x rfl,h.1⟩,ih (n+1) (fun k o ho=>?_) h.2⟩
      have:=hk (k+1) o (by simpa using ho)
      have e:n+1+k=n+(k+1):=by omega
      rw[e];exact this
  refine xZ (F:=fun i o=>ops[i]? =some o∧sD P ops K G a i o) (fun l v w=>G w∧∀ j d,l j=true→aB ops j=some d→v j=K j) hd hb iR hsz
    (fun l l' v w h hJ=>⟨hJ.1,fun j d hj hjd=>hJ.2 j d ?_ hjd⟩) ⟨h0,fun j d h=>by cases h⟩ ?_ (hall ops.toList 0 (fun k o h=>by simpa using h) hstep) ?_
  · have hjs:j < ops.size:=by
      rcases Nat.lt_or_ge j ops.size with h | h
      · exact h
      · unfold aB at hjd;rw[Array.getElem?_eq_none h]at hjd;simp at hjd
    rw[h j hjs];exact hj
  · rintro i o ⟨jS,hgk,hst⟩
    refine Bj.toW ?_
    intro l v w' hl hdp hJ
    obtain⟨hG,hv⟩:=hJ
    have hdo:aB ops i=o.dst:=by unfold aB;rw[jS];rfl
    have hnx:∀ x,(o.dst=none∨x=K i)→∀ j d,aJ l i j=true→aB ops j=some d→bQ v i x j=K j:=by
      intro x hx j d hj hjd
      unfold aJ at hj
      unfold bQ
      by_cases hji:j=i
      · subst hji
        rw[if_pos rfl]
        rcases hx with hx | hx
        · rw[hdo,hx]at hjd;cases hjd
        · exact hx
      · rw[if_neg hji]at hj⊢
        exact hv j d hj hjd
    have hgv:∀ g b,o.guard=some (g,b)→v g=K g:=by
      intro g b hg
      have h1:=Array.all_eq_true_iff_forall_mem.1 iR o (Array.mem_of_getElem? jS)
      rw[hg]at h1
      simp only[Bool.and_eq_true,decide_eq_true_eq,Option.isSome_iff_exists]at h1
      obtain⟨⟨h3,-⟩,d,hd'⟩:=h1
      exact hv g d (hdp g h3) hd'
    refine⟨fun g b hg=>?_,fun hg ρ h1 h2 h3 h4 h5=>?_⟩
    · obtain⟨b',hb1,hb2⟩:=hgk g b hg
      exact⟨b',(hgv g b hg).trans hb1,fun hne=>⟨hG,hnx undef (Or.inr (hb2 hne).symm)⟩⟩
    · refine(hst w' hG (fun g b h=>(hgv g b h).symm.trans (hg g b h)) ρ h1 h2 h3 (fun j d hj hjd=>?_) h5).mono fun x w'' h=>⟨h.2,hnx x h.1⟩
      rw[h4 j d hj hjd]
      exact hv j d (hdp j hj) hjd
  · intro v w' h
    rw[gW (vals':=K) ops.size (fun i d hi hid=>h.2 i d rfl hid)]
    exact hdone w' h.1
end
end Go.Proofs.YtcddlnmcjmhbcaaDoor
namespace Go.Proofs.YtcddlnmcjmhbcaaDoor
set_option linter.unusedVariables false
set_option linter.unusedSimpArgs false
open Go Go.RowKit
theorem Ve {k:Int} (h:1≤k∧k≤6):k=1∨k=2∨k=3∨k=4∨k=5∨k=6:=by omega
theorem Ya (x:Int):(decide (0≤x)=true∧decide (x < 0)=false)∨(decide (0≤x)=false∧decide (x < 0)=true):=by
  simp only[decide_eq_true_eq,decide_eq_false_iff_not]
  omega
theorem PZ (S th:Int):∀ r:List Ev,(∀ e∈r,0≤e.v∧e.v≤1099511627776)→0≤(bC S th r).rv∧(bC S th r).rv≤1099511627776:=by
  intro r
  induction r with
  | nil=>intro _;simp[bC,AtR.zero]
  | cons e r ih=>
    intro h
    have h1:=ih (fun q hq=>h q (List.mem_cons_of_mem _ hq))
    have h2:=h e (List.mem_cons_self ..)
    unfold bC
    split
    · unfold eP gu kN
      dsimp only
      split
      · exact h2
      · exact h1
    · exact h1
section
variable {P:Program} {ops:Array Oper} {K:Nat→Value} {G:World→Prop} {a0:Act} {i:Nat} {o:Oper}
theorem dM (hg:o.guard=none)
    (h:∀ w',Hid (G w')→∀ (ρ:Operand→Value),(∀ v,ρ (.const v)=v)→(∀ g,ρ (.global g)=.pointer (some ⟨g,0,none⟩))→(∀ f,ρ (.func f)=.func (.func f) #[] #[])→
      (∀ j d,(bu o).contains j=true→aB ops j=some d→ρ (.tmp d)=K j)→(∀ d,rV ops d=true→ρ (.tmp d)=a0.eval (.tmp d))→
      aO P o ρ w' fun v w''=>(o.dst=none∨v=K i)∧G w''):sD P ops K G a0 i o:=
  ⟨(fun g b h=>by rw[hg]at h;cases h),fun w' hG _ ρ h1 h2 h3 h4 h5=>h w' (hid hG) ρ h1 h2 h3 h4 h5⟩
theorem dh {g:Nat} {s:Bool} {x:Value} (hg:o.guard=some (g,true)) (hK:K g=.bool s) (hi:K i=WT s x)
    (h:s=true→∀ w',Hid (G w')→∀ (ρ:Operand→Value),(∀ v,ρ (.const v)=v)→(∀ g,ρ (.global g)=.pointer (some ⟨g,0,none⟩))→(∀ f,ρ (.func f)=.func (.func f) #[] #[])→
      (∀ j d,(bu o).contains j=true→aB ops j=some d→ρ (.tmp d)=K j)→(∀ d,rV ops d=true→ρ (.tmp d)=a0.eval (.tmp d))→
      aO P o ρ w' fun v w''=>(o.dst=none∨v=x)∧G w''):sD P ops K G a0 i o:=by
  refine⟨fun g' b' h'=>?_,fun w' hG hgd ρ h1 h2 h3 h4 h5=>?_⟩
  · rw[hg]at h'
    obtain⟨rfl,rfl⟩:=Prod.mk.inj (Option.some.inj h')
    exact⟨s,hK,fun hne=>by rw[hi];cases s;rfl;exact absurd rfl hne⟩
  · have hs:Value.bool s=.bool true:=hK ▸ hgd g true hg
    injection hs with hs
    have h6:=h hs w' (hid hG) ρ h1 h2 h3 h4 h5
    rw[hi,hs]
    exact h6
theorem vI {g:Nat} {s:Bool} {x:Value} (hg:o.guard=some (g,false)) (hK:K g=.bool s) (hi:K i=WF s x)
    (h:s=false→∀ w',Hid (G w')→∀ (ρ:Operand→Value),(∀ v,ρ (.const v)=v)→(∀ g,ρ (.global g)=.pointer (some ⟨g,0,none⟩))→(∀ f,ρ (.func f)=.func (.func f) #[] #[])→
      (∀ j d,(bu o).contains j=true→aB ops j=some d→ρ (.tmp d)=K j)→(∀ d,rV ops d=true→ρ (.tmp d)=a0.eval (.tmp d))→
      aO P o ρ w' fun v w''=>(o.dst=none∨v=x)∧G w''):sD P ops K G a0 i o:=by
  refine⟨fun g' b' h'=>?_,fun w' hG hgd ρ h1 h2 h3 h4 h5=>?_⟩
  · rw[hg]at h'
    obtain⟨rfl,rfl⟩:=Prod.mk.inj (Option.some.inj h')
    exact⟨s,hK,fun hne=>by rw[hi];cases s;exact absurd rfl hne;rfl⟩
  · have hs:Value.bool s=.bool false:=hK ▸ hgd g false hg
    injection hs with hs
    have h6:=h hs w' (hid hG) ρ h1 h2 h3 h4 h5
    rw[hi,hs]
    exact h6
end
structure Uh (a:Option Addr) (l:List Ev) (n cap:Nat) (e:Ev) (T V S:Int) (w:World):Prop where
  jH:∀ W,Below w.heap.size w W→Calls Tryd.prog 54 #[jL e,.int .i64 T,.int .i64 V,.int .i64 S] W fun e' w'=>e'=.returned (.bool true)∧Below W.heap.size W w'
  mine:∀ W,Below w.heap.size w W→Calls Tryd.prog 55 #[.slice a n cap,.int .i64 e.th,.int .i64 S] W (Ry S e.th l.reverse W)
  owner:∀ W,Below w.heap.size w W→∀ s,Calls Tryd.prog 59 #[.slice a n cap,.int .i64 s] W fun e' w'=>e'=.returned (.int .i64 (dR l.reverse s))∧Below W.heap.size W w'
  jD:∀ W,Below w.heap.size w W→∀ s,Calls Tryd.prog 60 #[.slice a n cap,.int .i64 s] W fun e' w'=>e'=.returned (.int .i64 (fM l.reverse s))∧Below W.heap.size W w'
  clk:∀ W,Below w.heap.size w W→Calls Tryd.prog 58 #[.slice a n cap] W fun e' w'=>e'=.returned (.int .i64 (lZ l.reverse))∧W=w'
  com:∀ W,Below w.heap.size w W→Calls Tryd.prog 57 #[.slice a n cap,.int .i64 e.th,.int .i64 S] W fun e' w'=>e'=.returned (.int .i64 (og S e.th l.reverse))∧Below W.heap.size W w'
  len:l.length≤1048576
  good:Jk (bC S e.th l.reverse)
  n:0≤(bC S e.th l.reverse).rv∧(bC S e.th l.reverse).rv≤1099511627776
  s:1≤S∧S≤32
  at0:0≤e.at_
  st:∀ x∈(bC S e.th l.reverse).stored,0≤x
theorem nG {w:World} {base m:Nat} {e:TypeId} {p:Option Addr} {c n:Nat} {xs:List Value} (h:bU w base e m (.slice p n c) n xs) (hne:0 < n):∃ g,p=some ⟨g,0,none⟩:=by
  rcases h.cases with⟨h0,-,-⟩ | ⟨g,cap,hv,-⟩
  · omega
  · injection hv with h1
    exact⟨g,h1⟩
theorem qZ {w:World} {base:Nat} {e:TypeId} {g c:Nat} {l:List Int} (h:bU w base e 1 (.slice (some ⟨g,0,none⟩) l.length c) l.length (fG l)) (j:Nat) (hj:j < l.length):w.cell? ⟨g,j,none⟩=some (.int .i64 l[j]):=by
  rcases h.cases with⟨h0,-,-⟩ | ⟨g',cap,hv,-,-,-,-,hu⟩
  · omega
  · injection hv with h1
    injection h1 with h1
    injection h1 with h1
    subst h1
    exact hu j _ (uX l j hj)
theorem yU {l:List Int} {k:Nat} {x y:Int} (h:l[k]? =some y):headB (l.drop k) x=(x==y):=by
  unfold headB
  rw[List.head?_drop,h,Bool.eq_iff_iff,decide_eq_true_eq,beq_iff_eq]
  exact⟨fun h=>(Option.some.inj h).symm,fun h=>by rw[h]⟩
theorem PY (S th:Int):∀ r:List Ev,(∀ e∈r,0≤e.at_)→∀ x∈(bC S th r).stored,0≤x:=by
  intro r
  induction r with
  | nil=>intro _ x hx;simp[bC,AtR.zero]at hx
  | cons e r ih=>
    intro h
    have h1:=ih (fun q hq=>h q (List.mem_cons_of_mem _ hq))
    have h2:=h e (List.mem_cons_self ..)
    unfold bC
    split
    · unfold eP gu kN
      dsimp only
      intro x hx
      by_cases k8:e.kind=8
      · have k1:¬ e.kind=1:=by omega
        rw[if_pos k8,if_neg k1]at hx
        rcases List.mem_append.1 hx with hx | hx
        · exact h1 x hx
        · rw[List.mem_singleton.1 hx];exact h2
      · rw[if_neg k8]at hx
        by_cases k1:e.kind=1
        · rw[if_pos k1]at hx;cases hx
        · rw[if_neg k1]at hx;exact h1 x hx
    · exact h1
theorem Ai (S:Int):∀ (l acc:List Int) (x:Int),oh S acc (l++[x])=fP (oh S acc l) (x % S):=by
  intro l
  induction l with
  | nil=>intro acc x;rfl
  | cons y l ih=>intro acc x;exact ih _ x
theorem DI (S:Int):∀ (l acc:List Int),(oh S acc l).length≤acc.length+l.length:=by
  intro l
  induction l with
  | nil=>intro acc;simp[oh]
  | cons y l ih=>
    intro acc
    have h1:=ih (fP acc (y % S))
    have h2:=DT acc (y % S)
    show(oh S (fP acc (y % S)) l).length≤_
    simp only[List.length_cons]
    omega
theorem Qk (m:List Ev) (e:Ev) (j:Nat) (u:Value) (hu:(qM e)[j]? =some u):((m++[e]).flatMap qM)[m.length*7+j]? =some u:=by
  have hl:(m.flatMap qM).length=m.length*7:=by
    induction m with
    | nil=>rfl
    | cons x m ih=>rw[List.flatMap_cons,List.length_append,ih];simp[qM];omega
  rw[List.flatMap_append,List.getElem?_append_right (by omega),hl,show m.length*7+j-m.length*7=j by omega]
  simpa using hu
theorem yL {w:World} {base:Nat} {t:TypeId} {g c:Nat} {m:List Ev} {e:Ev} (h:bU w base t 7 (.slice (some ⟨g,0,none⟩) (m++[e]).length c) (m++[e]).length ((m++[e]).flatMap qM)) (j:Nat) (u:Value) (hu:(qM e)[j]? =some u):w.cell? ⟨g,m.length*7+j,none⟩=some u:=by
  rcases h.cases with⟨h0,-,-⟩ | ⟨g',cap,hv,-,-,-,-,hc⟩
  · simp at h0
  · injection hv with h1
    injection h1 with h1
    injection h1 with h1
    subst h1
    exact hc _ u (Qk m e j u hu)
set_option maxRecDepth 100000 in
set_option maxHeartbeats 40000000 in
theorem Vu (a:Option Addr) (l:List Ev) (n cap:Nat) (th tx at_ v x why T V S:Int) (w:World) (G:Uh a l n cap ⟨1,th,tx,at_,v,x,why⟩ T V S w):
  Calls Tryd.prog 24 #[.slice a n cap,jL ⟨1,th,tx,at_,v,x,why⟩,.int .i64 T,.int .i64 V,.int .i64 S] w fun e' w'=>e'=.returned (.bool (yI S l.reverse ⟨1,th,tx,at_,v,x,why⟩ (bC S th l.reverse)))∧Below w.heap.size w w':=by
 have ES:=hid G.jH
 have RG:=hid G.mine
 have HOW:=hid G.owner
 have Ih:=hid G.jD
 have UK:=hid G.clk
 have Xa:=hid G.com
 have HLEN:=hid G.len
 have RI:=hid G.good
 have UB:=hid G.n
 have HS:=hid G.s
 have HAT:=hid G.at0
 have HST:=hid G.st
 clear G
 unfold jL
 dsimp only at ES RG HAT HST⊢
 go_enter Tryd.func24,Tryd.ntmps24
 have hq:=aA.new w #[.int .u8 1,.int .i64 th,.int .i64 tx,.int .i64 at_,.int .i64 v,.int .i64 x,.int .u8 why] 49
 have e0:=hq.cell 0 (v:=.int .u8 1) rfl
 have e1:=hq.cell 1 (v:=.int .i64 th) rfl
 have e2:=hq.cell 2 (v:=.int .i64 tx) rfl
 have e3:=hq.cell 3 (v:=.int .i64 at_) rfl
 have e4:=hq.cell 4 (v:=.int .i64 v) rfl
 have e5:=hq.cell 5 (v:=.int .i64 x) rfl
 have e6:=hq.cell 6 (v:=.int .u8 why) rfl
 have WZ:=hid hq
 clear hq
 go_wp2_with fail
 refine(ES.out _ (ah (af _) _)).mono ?_
 rintro e' w1 ⟨rfl,hb1⟩
 have HB1:=hid (ag (ah (af w) (.cells #[.int .u8 1,.int .i64 th,.int .i64 tx,.int .i64 at_,.int .i64 v,.int .i64 x,.int .u8 why] 49)) hb1)
 have OG:=hid (WZ.out.below hb1)
 clear hb1 e0 e1 e2 e3 e4 e5 e6 WZ
 have e1:=OG.out.cell 1 (v:=.int .i64 th) rfl
 go_wp2_with fail
 refine(RG.out _ HB1.out).mono ?_
 rintro e' w2 ⟨vL,vr,vl,vf,vs,rfl,hb2,hr2⟩
 obtain⟨pL,cL,pr,cr,pl,cl,pf,cf,ps,cs,rfl,rfl,rfl,rfl,rfl⟩:=hr2.shape
 have Bo:=hid (yF S th l.reverse)
 generalize hA:bC S th l.reverse=A at*
 have Jj:=hid hA
 clear hA
 have HE2:=hid ((OG.out.below hb2).alloc (.cells (kS A (.slice pL A.L.length cL) (.slice pr A.read.length cr) (.slice pl A.locked.length cl) (.slice pf A.freed.length cf) (.slice ps A.stored.length cs)) 95))
 have HB2:=hid (ah (ag HB1.out hb2) (.cells (kS A (.slice pL A.L.length cL) (.slice pr A.read.length cr) (.slice pl A.locked.length cl) (.slice pf A.freed.length cf) (.slice ps A.stored.length cs)) 95))
 have HR2:=hid (hr2.below (ah (af _) (.cells (kS A (.slice pL A.L.length cL) (.slice pr A.read.length cr) (.slice pl A.locked.length cl) (.slice pf A.freed.length cf) (.slice ps A.stored.length cs)) 95)))
 have hk:=aA.new w2 (kS A (.slice pL A.L.length cL) (.slice pr A.read.length cr) (.slice pl A.locked.length cl) (.slice pf A.freed.length cf) (.slice ps A.stored.length cs)) 95
 have tq:=hid hk
 have HEA:=hid (show w.heap.size < w2.heap.size from by have:=hb2.size;have:=HB1.out.size;have:=(OG.out).lt;omega)
 have k0:=hk.cell 0 (v:=.slice pL A.L.length cL) rfl
 have k1:=hk.cell 1 (v:=.int .i64 A.rv) rfl
 have k2:=hk.cell 2 (v:=.int .i64 A.wv) rfl
 have k3:=hk.cell 3 (v:=.slice pr A.read.length cr) rfl
 have k4:=hk.cell 4 (v:=.slice pl A.locked.length cl) rfl
 have k5:=hk.cell 5 (v:=.slice pf A.freed.length cf) rfl
 have k6:=hk.cell 6 (v:=.int .i64 (A.checked:Int)) rfl
 have k7:=hk.cell 7 (v:=.slice ps A.stored.length cs) rfl
 have k8:=hk.cell 8 (v:=.int .u8 A.why) rfl
 have k9:=hk.cell 9 (v:=.int .u8 A.last) rfl
 have e0:=HE2.out.cell 0 (v:=.int .u8 1) rfl
 clear hk hb2 hr2 HB1 OG e1
 unfold kS at*
 go_wp2_with fail
 obtain⟨w4,hw4⟩:∃ w4,w4=w2.alloc (.cells #[.slice pL A.L.length cL,.int .i64 A.rv,.int .i64 A.wv,.slice pr A.read.length cr,.slice pl A.locked.length cl,.slice pf A.freed.length cf,.int .i64 (A.checked:Int),.slice ps A.stored.length cs,.int .u8 A.why,.int .u8 A.last] 95):=⟨_,rfl⟩
 rw[←hw4]at HE2 tq HR2 HB2
 rw[←hw4]
 clear hw4 k0 k1 k2 k3 k4 k5 k6 k7 k8 k9 e0
 have lV:=HE2
 have dX:=tq
 have HB4:=HB2
 obtain⟨s1,hs1⟩:∃ s:Bool,dQ A=s:=⟨_,rfl⟩
 have Wv:=hid hs1
 obtain⟨q5,hq5⟩:∃ q:Bool,((A.why !=6))=q:=⟨_,rfl⟩
 have Lu:=hid hq5
 obtain⟨p6,Yo⟩:∃ p:Bool,p=(s1&&q5):=⟨_,rfl⟩
 have XJ:=hid Yo
 obtain⟨Xq,Tf⟩:∃ q:Bool,((tx==(og S th l.reverse)))=q:=⟨_,rfl⟩
 have Zv:=hid Tf
 obtain⟨p16,GL⟩:∃ p:Bool,p=(p6&&Xq):=⟨_,rfl⟩
 have Ux:=hid GL
 obtain⟨q22,SY⟩:∃ q:Bool,(decide ((lZ l.reverse)≤v))=q:=⟨_,rfl⟩
 have Zq:=hid SY
 obtain⟨Xr,Tm⟩:∃ p:Bool,p=(p16&&q22):=⟨_,rfl⟩
 have ZB:=hid Tm
 have jB:Hid (yI S l.reverse ⟨1,th,tx,at_,v,x,why⟩ (bC S th l.reverse)=Xr):=hid (by
  rw[Jj.out]
  unfold yI
  rw[Tm,GL,Yo]
  simp only[←hq5,←Tf,←SY,←hs1]
  rw[Bool.eq_iff_iff]
  simp)
 clear hs1 hq5 Yo Tf GL SY Tm
 apply aZ (fun qq=>([(.agg #[.slice pL A.L.length cL,.int .i64 A.rv,.int .i64 A.wv,.slice pr A.read.length cr,.slice pl A.locked.length cl,.slice pf A.freed.length cf,.int .i64 (A.checked:Int),.slice ps A.stored.length cs,.int .u8 A.why,.int .u8 A.last]),(.bool s1),(.bool s1),(WT s1 (.pointer (some ⟨w2.heap.size,8,none⟩))),(WT s1 (.int .u8 A.why)),(WT s1 (.bool q5)),(.bool p6),(.bool p6),(WT p6 (.pointer (some ⟨w.heap.size,2,none⟩))),(WT p6 (.int .i64 tx)),(WT p6 (.slice a n cap)),(WT p6 (.pointer (some ⟨w.heap.size,1,none⟩))),(WT p6 (.int .i64 th)),(WT p6 (.int .i64 S)),(WT p6 (.int .i64 (og S th l.reverse))),(WT p6 (.bool Xq)),(.bool p16),(.bool p16),(WT p16 (.pointer (some ⟨w.heap.size,4,none⟩))),(WT p16 (.int .i64 v)),(WT p16 (.slice a n cap)),(WT p16 (.int .i64 (lZ l.reverse))),(WT p16 (.bool q22)),(.bool Xr),(.bool Xr)]:List Value).getD qq undef) (fun w'=>Below w4.heap.size w4 w')
 focus (simp[ay,aB,Act.put,List.getD,WF,WT];rfl)
 case hm=>kernel_rfl
 case hd=>kernel_rfl
 case hb=>kernel_rfl
 case iR=>kernel_rfl
 case hsz=>kernel_rfl
 case h0=>exact aj (af _)
 case hstep=>
  refine⟨?_,?_,?_,?_,?_,?_,?_,?_,?_,?_,?_,?_,?_,?_,?_,?_,?_,?_,?_,?_,?_,?_,?_,?_,?_,trivial⟩
  refine dM rfl fun w' hG ρ h1 h2 h3 h4 h5=>?_;have f11:ρ (.tmp 11)=.pointer (some ⟨w2.heap.size,0,none⟩):=h5 11 rfl;have hk:=dX.out.below hG.out;have c0:=hk.cell 0 (v:=.slice pL A.L.length cL) rfl;have c1:=hk.cell 1 (v:=.int .i64 A.rv) rfl;have c2:=hk.cell 2 (v:=.int .i64 A.wv) rfl;have c3:=hk.cell 3 (v:=.slice pr A.read.length cr) rfl;have c4:=hk.cell 4 (v:=.slice pl A.locked.length cl) rfl;have c5:=hk.cell 5 (v:=.slice pf A.freed.length cf) rfl;have c6:=hk.cell 6 (v:=.int .i64 (A.checked:Int)) rfl;have c7:=hk.cell 7 (v:=.slice ps A.stored.length cs) rfl;have c8:=hk.cell 8 (v:=.int .u8 A.why) rfl;have c9:=hk.cell 9 (v:=.int .u8 A.last) rfl;clear hk;rotate_left
  ·refine dM rfl fun w' hG ρ h1 h2 h3 h4 h5=>?_;have f39:ρ (.tmp 39)=(.agg #[.slice pL A.L.length cL,.int .i64 A.rv,.int .i64 A.wv,.slice pr A.read.length cr,.slice pl A.locked.length cl,.slice pf A.freed.length cf,.int .i64 (A.checked:Int),.slice ps A.stored.length cs,.int .u8 A.why,.int .u8 A.last]):=h4 0 39 rfl rfl;clear h4 h5;unfold aO;go_simp;unfold xE;refine(uO A pL pr pl pf ps cL cr cl cf cs _).mono ?_;rintro e' w1 ⟨rfl,hb⟩;exact⟨_,rfl,congrArg Value.bool Wv.out,ag hG.out hb⟩
  refine dM rfl fun w' hG ρ h1 h2 h3 h4 h5=>?_;have f40:ρ (.tmp 40)=(.bool s1):=h4 1 40 rfl rfl;rotate_left
  refine dh (s:=s1) (x:=(.pointer (some ⟨w2.heap.size,8,none⟩))) rfl rfl rfl fun hs w' hG ρ h1 h2 h3 h4 h5=>?_;subst hs;have f11:ρ (.tmp 11)=.pointer (some ⟨w2.heap.size,0,none⟩):=h5 11 rfl;rotate_left
  refine dh (s:=s1) (x:=(.int .u8 A.why)) rfl rfl rfl fun hs w' hG ρ h1 h2 h3 h4 h5=>?_;subst hs;have f42:ρ (.tmp 42)=(.pointer (some ⟨w2.heap.size,8,none⟩)):=h4 3 42 rfl rfl;have c:=(dX.out.below hG.out).cell 8 (v:=.int .u8 A.why) rfl;rotate_left
  ·refine dh (s:=s1) (x:=(.bool q5)) rfl rfl rfl fun hs w' hG ρ h1 h2 h3 h4 h5=>?_;subst hs;have f43:ρ (.tmp 43)=(.int .u8 A.why):=h4 4 43 rfl rfl;clear h4 h5;unfold aO;go_simp;exact⟨congrArg Value.bool Lu.out,hG.out⟩
  ·refine dM rfl fun w' hG ρ h1 h2 h3 h4 h5=>?_;have f41:ρ (.tmp 41)=(.bool s1):=h4 2 41 rfl rfl;have f44:ρ (.tmp 44)=(WT s1 (.bool q5)):=h4 5 44 rfl rfl;have e5:=XJ.out;cases s1 <;> simp only[Bool.false_and,Bool.true_and,Bool.true_or,Bool.false_or]at e5 <;> subst e5;all_goals (try dsimp only[WF,WT]at*;clear h4 h5;unfold aO;go_simp;exact⟨rfl,hG.out⟩)
  refine dM rfl fun w' hG ρ h1 h2 h3 h4 h5=>?_;have f45:ρ (.tmp 45)=(.bool p6):=h4 6 45 rfl rfl;rotate_left
  refine dh (s:=p6) (x:=(.pointer (some ⟨w.heap.size,2,none⟩))) rfl rfl rfl fun hs w' hG ρ h1 h2 h3 h4 h5=>?_;subst hs;have f6:ρ (.tmp 6)=.pointer (some ⟨w.heap.size,0,none⟩):=h5 6 rfl;rotate_left
  refine dh (s:=p6) (x:=(.int .i64 tx)) rfl rfl rfl fun hs w' hG ρ h1 h2 h3 h4 h5=>?_;subst hs;have f47:ρ (.tmp 47)=(.pointer (some ⟨w.heap.size,2,none⟩)):=h4 8 47 rfl rfl;have c:=(lV.out.below hG.out).cell 2 (v:=.int .i64 tx) rfl;rotate_left
  refine dh (s:=p6) (x:=(.slice a n cap)) rfl rfl rfl fun hs w' hG ρ h1 h2 h3 h4 h5=>?_;subst hs;have f0:ρ (.tmp 0)=.slice a n cap:=h5 0 rfl;rotate_left
  refine dh (s:=p6) (x:=(.pointer (some ⟨w.heap.size,1,none⟩))) rfl rfl rfl fun hs w' hG ρ h1 h2 h3 h4 h5=>?_;subst hs;have f6:ρ (.tmp 6)=.pointer (some ⟨w.heap.size,0,none⟩):=h5 6 rfl;rotate_left
  refine dh (s:=p6) (x:=(.int .i64 th)) rfl rfl rfl fun hs w' hG ρ h1 h2 h3 h4 h5=>?_;subst hs;have f50:ρ (.tmp 50)=(.pointer (some ⟨w.heap.size,1,none⟩)):=h4 11 50 rfl rfl;have c:=(lV.out.below hG.out).cell 1 (v:=.int .i64 th) rfl;rotate_left
  refine dh (s:=p6) (x:=(.int .i64 S)) rfl rfl rfl fun hs w' hG ρ h1 h2 h3 h4 h5=>?_;subst hs;have f4:ρ (.tmp 4)=.int .i64 S:=h5 4 rfl;rotate_left
  ·refine dh (s:=p6) (x:=(.int .i64 (og S th l.reverse))) rfl rfl rfl fun hs w' hG ρ h1 h2 h3 h4 h5=>?_;subst hs;have f49:ρ (.tmp 49)=(.slice a n cap):=h4 10 49 rfl rfl;have f51:ρ (.tmp 51)=(.int .i64 th):=h4 12 51 rfl rfl;have f52:ρ (.tmp 52)=(.int .i64 S):=h4 13 52 rfl rfl;clear h4 h5;unfold aO;go_simp;unfold xE;refine(Xa.out _ (ag HB4.out hG.out)).mono ?_;rintro e' w1 ⟨rfl,hb⟩;exact⟨_,rfl,rfl,ag hG.out hb⟩
  ·refine dh (s:=p6) (x:=(.bool Xq)) rfl rfl rfl fun hs w' hG ρ h1 h2 h3 h4 h5=>?_;subst hs;have f48:ρ (.tmp 48)=(.int .i64 tx):=h4 9 48 rfl rfl;have f53:ρ (.tmp 53)=(.int .i64 (og S th l.reverse)):=h4 14 53 rfl rfl;clear h4 h5;unfold aO;go_simp;exact⟨congrArg Value.bool Zv.out,hG.out⟩
  ·refine dM rfl fun w' hG ρ h1 h2 h3 h4 h5=>?_;have f46:ρ (.tmp 46)=(.bool p6):=h4 7 46 rfl rfl;have f54:ρ (.tmp 54)=(WT p6 (.bool Xq)):=h4 15 54 rfl rfl;have e5:=Ux.out;cases p6 <;> simp only[Bool.false_and,Bool.true_and,Bool.true_or,Bool.false_or]at e5 <;> subst e5;all_goals (try dsimp only[WF,WT]at*;clear h4 h5;unfold aO;go_simp;exact⟨rfl,hG.out⟩)
  refine dM rfl fun w' hG ρ h1 h2 h3 h4 h5=>?_;have f55:ρ (.tmp 55)=(.bool p16):=h4 16 55 rfl rfl;rotate_left
  refine dh (s:=p16) (x:=(.pointer (some ⟨w.heap.size,4,none⟩))) rfl rfl rfl fun hs w' hG ρ h1 h2 h3 h4 h5=>?_;subst hs;have f6:ρ (.tmp 6)=.pointer (some ⟨w.heap.size,0,none⟩):=h5 6 rfl;rotate_left
  refine dh (s:=p16) (x:=(.int .i64 v)) rfl rfl rfl fun hs w' hG ρ h1 h2 h3 h4 h5=>?_;subst hs;have f57:ρ (.tmp 57)=(.pointer (some ⟨w.heap.size,4,none⟩)):=h4 18 57 rfl rfl;have c:=(lV.out.below hG.out).cell 4 (v:=.int .i64 v) rfl;rotate_left
  refine dh (s:=p16) (x:=(.slice a n cap)) rfl rfl rfl fun hs w' hG ρ h1 h2 h3 h4 h5=>?_;subst hs;have f0:ρ (.tmp 0)=.slice a n cap:=h5 0 rfl;rotate_left
  ·refine dh (s:=p16) (x:=(.int .i64 (lZ l.reverse))) rfl rfl rfl fun hs w' hG ρ h1 h2 h3 h4 h5=>?_;subst hs;have f59:ρ (.tmp 59)=(.slice a n cap):=h4 20 59 rfl rfl;clear h4 h5;unfold aO;go_simp;unfold xE;refine(UK.out _ (ag HB4.out hG.out)).mono ?_;rintro e' w1 ⟨rfl,rfl⟩;exact⟨_,rfl,rfl,hG.out⟩
  ·refine dh (s:=p16) (x:=(.bool q22)) rfl rfl rfl fun hs w' hG ρ h1 h2 h3 h4 h5=>?_;subst hs;have f58:ρ (.tmp 58)=(.int .i64 v):=h4 19 58 rfl rfl;have f60:ρ (.tmp 60)=(.int .i64 (lZ l.reverse)):=h4 21 60 rfl rfl;clear h4 h5;unfold aO;go_simp;exact⟨congrArg Value.bool Zq.out,hG.out⟩
  ·refine dM rfl fun w' hG ρ h1 h2 h3 h4 h5=>?_;have f56:ρ (.tmp 56)=(.bool p16):=h4 17 56 rfl rfl;have f61:ρ (.tmp 61)=(WT p16 (.bool q22)):=h4 22 61 rfl rfl;have e5:=ZB.out;cases p16 <;> simp only[Bool.false_and,Bool.true_and,Bool.true_or,Bool.false_or]at e5 <;> subst e5;all_goals (try dsimp only[WF,WT]at*;clear h4 h5;unfold aO;go_simp;exact⟨rfl,hG.out⟩)
  refine dM rfl fun w' hG ρ h1 h2 h3 h4 h5=>?_;have f62:ρ (.tmp 62)=(.bool Xr):=h4 23 62 rfl rfl;rotate_left
  all_goals (clear h4 h5;unfold aO;go_simp;exact⟨rfl,hG.out⟩)
 case hdone=>
  intro w' hG
  have sW:=hid (ag HB4.out hG)
  clear hG
  go_wp2_with fail
  all_goals (go_ret;exact⟨by rw[jB.out];try rfl,sW.out⟩)
end Go.Proofs.YtcddlnmcjmhbcaaDoor
-- short
