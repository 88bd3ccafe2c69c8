/-
  Joined texts: Base Kit Turn.
-/
import Derived.WalkKit
import Derived.WalkSpells
import Derived.Deep.Draws
namespace Go.Proofs.YtcddlnmcjmhbcaaDoor
set_option linter.unusedVariables false
open Go Go.RowKit
theorem hid {p:Prop} (h:p):Hid p:=h
theorem lt_of_cell {w:World} {b o:Nat} {v:Value} (h:w.cell? ⟨b,o,none⟩=some v):b < w.heap.size:=by
 unfold World.cell? at h
 rcases Nat.lt_or_ge b w.heap.size with h' | h'
 ·exact h'
 ·simp[Array.getElem?_eq_none h']at h
theorem later {w w':World} {b o:Nat} {v:Value} (hb:Below w.heap.size w w') (h:w.cell? ⟨b,o,none⟩=some v):w'.cell? ⟨b,o,none⟩=some v:=by
 rw[hb.cell (p:=⟨b,o,none⟩) (lt_of_cell h)];exact h
theorem af (w:World):Below w.heap.size w w:=Below.refl _ _
theorem ag {a b c:World} (h:Below a.heap.size a b) (k:Below b.heap.size b c):Below a.heap.size a c:=h.trans (k.mono h.size)
theorem ah {a b:World} (h:Below a.heap.size a b) (o:Obj):Below a.heap.size a (b.alloc o):=h.alloc h.size o
theorem aj {a b:World} (h:Below a.heap.size a b):Below a.heap.size a b.drew:=h.drew
theorem ai {a b:World} (h:Below a.heap.size a b) (n:Nat):Below a.heap.size a (b.drewN n):=by
 induction n with
 | zero=>exact h
 | succ n ih=>exact⟨ih.os,ih.tape,ih.output,ih.size,ih.block⟩
def aA (w:World) (b:Nat) (cs:Array Value) (t:TypeId):Prop:=w.heap[b]? =some (.cells cs t (0,0))
theorem aA.cell {w:World} {b:Nat} {cs:Array Value} {t:TypeId} (h:aA w b cs t) (o:Nat) {v:Value} (hv:cs[o]? =some v):w.cell? ⟨b,o,none⟩=some v:=by
 unfold aA at h
 simp[World.cell?,h,hv]
theorem aA.free {w:World} {b:Nat} {cs:Array Value} {t:TypeId} (h:aA w b cs t) (o:Nat):w.frozen? ⟨b,o,none⟩=false:=by
 unfold aA at h
 simp[World.frozen?,h]
theorem aA.lt {w:World} {b:Nat} {cs:Array Value} {t:TypeId} (h:aA w b cs t):b < w.heap.size:=by
 unfold aA at h
 rcases Nat.lt_or_ge b w.heap.size with h' | h'
 ·exact h'
 ·simp[Array.getElem?_eq_none h']at h
theorem aA.new (w:World) (cs:Array Value) (t:TypeId):aA (w.alloc (.cells cs t)) w.heap.size cs t:=by
 show(w.heap.push _)[w.heap.size]? =_
 simp
theorem aA.new' (w:World) (cs:Array Value) (t:TypeId) {b:Nat} (h:b=w.heap.size):aA (w.alloc (.cells cs t)) b cs t:=by subst h;exact aA.new w cs t
theorem aA.below {w w':World} {b:Nat} {cs:Array Value} {t:TypeId} (hb:Below w.heap.size w w') (h:aA w b cs t):aA w' b cs t:=by
 have hl:=h.lt
 unfold aA at h⊢
 rw[hb.block b hl];exact h
theorem aA.alloc {w:World} {b:Nat} {cs:Array Value} {t:TypeId} (h:aA w b cs t) (o:Obj):aA (w.alloc o) b cs t:=h.below (ah (af _) o)
theorem aA.drew {w:World} {b:Nat} {cs:Array Value} {t:TypeId} (h:aA w b cs t):aA w.drew b cs t:=h
theorem aA.set {w:World} {b:Nat} {cs:Array Value} {t:TypeId} (h:aA w b cs t) (o:Nat) (v:Value):aA (w.setCell ⟨b,o,none⟩ v) b (cs.setIfInBounds o v) t:=by
 unfold aA at h⊢
 simp[World.setCell,Array.getElem?_modify,h]
theorem aA.aC {w:World} {b:Nat} {cs:Array Value} {t:TypeId} (h:aA w b cs t) (p:Addr) (v:Value) (hne:b≠p.block):aA (w.setCell p v) b cs t:=by
 unfold aA at h⊢
 rw[Below.heap_setCell _ _ _ _ hne];exact h
theorem N8 {w:World} {b o:Nat} {x:Value} (h:w.cell? ⟨b,o,none⟩=some x) (p:Addr) (v:Value) (hne:b≠p.block):(w.setCell p v).cell? ⟨b,o,none⟩=some x:=by
 rw[World.cell?_of_block (w:=w) (Below.heap_setCell _ _ _ _ hne)];exact h
theorem gy {k:IntKind} {a b:Int} (h:a=b):Ending.returned (.int k a)=.returned (.int k b):=by rw[h]
theorem aG {w:World} {b o:Nat} {v:Value} {x:Obj} (h:w.cell? ⟨b,o,none⟩=some v):(w.alloc x).cell? ⟨b,o,none⟩=some v:=later (ah (af _) _) h
structure Turn (l:List Nat) (w w':World):Prop where
 os:w'.os=w.os
 tape:w'.tape=w.tape
 output:w'.output=w.output
 size:w.heap.size≤w'.heap.size
 block:∀ k,k < w.heap.size→k∉l→w'.heap[k]? =w.heap[k]?
theorem Turn.refl (l:List Nat) (w:World):Turn l w w:=⟨rfl,rfl,rfl,Nat.le_refl _,fun _ _ _=>rfl⟩
theorem Turn.trans {l:List Nat} {a b c:World} (h:Turn l a b) (k:Turn l b c):Turn l a c:=
 ⟨k.os.trans h.os,k.tape.trans h.tape,k.output.trans h.output,Nat.le_trans h.size k.size,fun i hi hn=>(k.block i (Nat.lt_of_lt_of_le hi h.size) hn).trans (h.block i hi hn)⟩
theorem Turn.of_below {l:List Nat} {a b:World} (h:Below a.heap.size a b):Turn l a b:=⟨h.os,h.tape,h.output,h.size,fun i hi _=>h.block i hi⟩
theorem Turn.drew {l:List Nat} {a b:World} (h:Turn l a b):Turn l a b.drew:=⟨h.os,h.tape,h.output,h.size,h.block⟩
theorem Turn.drewN {l:List Nat} {a b:World} (h:Turn l a b) (n:Nat):Turn l a (b.drewN n):=h.trans (Turn.of_below (ai (af _) n))
theorem Turn.alloc {l:List Nat} {a b:World} (h:Turn l a b) (o:Obj):Turn l a (b.alloc o):=h.trans (Turn.of_below (ah (af _) o))
theorem Turn.setCell {l:List Nat} {a b:World} (h:Turn l a b) {p:Addr} (hp:p.block∈l∨a.heap.size≤p.block) (u:Value):Turn l a (b.setCell p u):=
 ⟨h.os,h.tape,h.output,Nat.le_trans h.size (by simp[World.setCell]),fun i hi hn=>by
  rw[Below.heap_setCell _ _ _ _ (by rintro rfl;rcases hp with hp | hp;exact hn hp;omega)]
  exact h.block i hi hn⟩
theorem Turn.below {l:List Nat} {a b:World} (h:Turn l a b) {B:Nat} (hl:∀ x∈l,B≤x) (hB:B≤a.heap.size):Below B a b:=
 ⟨h.os,h.tape,h.output,h.size,fun k hk=>h.block k (by omega) fun hm=>by have:=hl k hm;omega⟩
theorem Turn.cell {l:List Nat} {a b:World} (h:Turn l a b) {k o:Nat} {v:Value} (hn:k∉l) (hc:a.cell? ⟨k,o,none⟩=some v):b.cell? ⟨k,o,none⟩=some v:=by
 rw[World.cell?_of_block (w:=a) (h.block k (lt_of_cell hc) hn)];exact hc
theorem Turn.blk {l:List Nat} {a b:World} (h:Turn l a b) {k:Nat} {cs:Array Value} {t:TypeId} (hn:k∉l) (hc:aA a k cs t):aA b k cs t:=by
 unfold aA;rw[h.block k hc.lt hn];exact hc
def fH (rows:List (List Value)):Array Value:=rows.flatten.toArray
theorem flat_get {m:Nat}:∀ {rows:List (List Value)},(∀ r∈rows,r.length=m)→∀ (i k:Nat) (hi:i < rows.length),k < m→rows.flatten[i*m+k]? =(rows[i])[k]?
 | [],_,i,k,hi,_=>by simp at hi
 | r :: rs,h,0,k,hi,hk=>by
  have hr:=h r (by simp)
  simp only[List.flatten_cons,Nat.zero_mul,Nat.zero_add,List.getElem_cons_zero]
  rw[List.getElem?_append_left (by omega)]
 | r :: rs,h,i+1,k,hi,hk=>by
  have hr:=h r (by simp)
  simp only[List.flatten_cons,List.getElem_cons_succ]
  rw[List.getElem?_append_right (by rw[hr,Nat.succ_mul];omega),hr]
  have e:(i+1)*m+k-m=i*m+k:=by rw[Nat.succ_mul];omega
  rw[e]
  exact flat_get (fun x hx=>h x (by simp[hx])) i k (by simpa using hi) hk
theorem Ej {m:Nat}:∀ {rows:List (List Value)},(∀ r∈rows,r.length=m)→∀ (i k:Nat) (v:Value),i < rows.length→k < m→rows.flatten.set (i*m+k) v=(rows.modify i (fun r=>r.set k v)).flatten
 | [],_,i,k,v,hi,_=>by simp at hi
 | r :: rs,h,0,k,v,hi,hk=>by
  have hr:=h r (by simp)
  simp only[List.flatten_cons,Nat.zero_mul,Nat.zero_add,List.modify_zero_cons]
  rw[List.set_append_left _ _ (by omega)]
 | r :: rs,h,i+1,k,v,hi,hk=>by
  have hr:=h r (by simp)
  simp only[List.flatten_cons,List.modify_succ_cons]
  rw[List.set_append_right _ _ (by rw[hr,Nat.succ_mul];omega),hr]
  have e:(i+1)*m+k-m=i*m+k:=by rw[Nat.succ_mul];omega
  rw[e,Ej (fun x hx=>h x (by simp[hx])) i k v (by simpa using hi) hk]
theorem wI {m:Nat} {rows:List (List Value)} (h:∀ r∈rows,r.length=m) (i k:Nat) (hi:i < rows.length) (hk:k < m):(fH rows)[i*m+k]? =(rows[i])[k]?:=by
 unfold fH;rw[List.getElem?_toArray];exact flat_get h i k hi hk
theorem A7 {m:Nat} {rows:List (List Value)} (h:∀ r∈rows,r.length=m) (i k:Nat) (v:Value) (hi:i < rows.length) (hk:k < m):(fH rows).setIfInBounds (i*m+k) v=fH (rows.modify i (fun r=>r.set k v)):=by
 unfold fH;rw[List.setIfInBounds_toArray,Ej h i k v hi hk]
theorem yE {m:Nat} {rows:List (List Value)} (h:∀ r∈rows,r.length=m) (i:Nat) (f:List Value→List Value) (hf:∀ r,(f r).length=r.length):∀ r∈rows.modify i f,r.length=m:=by
 intro r hr
 obtain⟨j,hj,rfl⟩:=List.mem_iff_getElem.1 hr
 rw[List.getElem_modify]
 have hj':j < rows.length:=by simpa using hj
 split
 ·rw[hf];exact h _ (List.getElem_mem hj')
 ·exact h _ (List.getElem_mem hj')
theorem aK (rows:List (List Value)) (i:Nat) (f g:List Value→List Value):(rows.modify i f).modify i g=rows.modify i (fun r=>g (f r)):=by
 apply List.ext_getElem (by simp)
 intro j h1 h2
 simp only[List.getElem_modify]
 split <;> rfl
theorem zV (rows:List (List Value)) (i:Nat) (f:List Value→List Value) (hi:i < rows.length) {r:List Value} (h:f rows[i]=r):rows.modify i f=rows.set i r:=by
 apply List.ext_getElem (by simp)
 intro j h1 h2
 simp only[List.getElem_modify,List.getElem_set]
 split
 ·rename_i e;subst e;exact h
 ·rfl
end Go.Proofs.YtcddlnmcjmhbcaaDoor
-- short
