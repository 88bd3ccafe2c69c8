/-
  Walks: shape.New where it answers.
-/
import Derived.Test.YtcddlnmcjmhbcaaDoorRgD
import Derived.Test.YtcddlnmcjmhbcaaDoorReg3
namespace Go.Proofs.YtcddlnmcjmhbcaaDoor
set_option linter.unusedVariables false
set_option linter.unusedSimpArgs false
open Go Go.RowKit
def zJ (T V S B:Nat) (i:Nat) (v:Value) (w:World):Prop:=
 match i with
 | 0=>v=.int .i64 (V:Int)
 | 1=>v=.int .i64 (T:Int)
 | 2=>∃ b,B≤b∧v=.slice (some ⟨b,0,none⟩) T T∧aA w b (fH (List.replicate T (vU Th.zero))) 93
 | 3=>v=.agg #[.int .i64 (-1),.int .i64 0]
 | 4=>∃ b,v=.slice (some ⟨b,0,none⟩) 1 1∧w.cell? ⟨b,0,none⟩=some (.int .i64 (-1))∧w.cell? ⟨b,1,none⟩=some (.int .i64 0)
 | 5=>v=.int .i64 (S:Int)
 | 6=>∃ b,B≤b∧v=.slice (some ⟨b,0,none⟩) S S∧aA w b (fH (List.replicate S (lU (-1,0)))) 83
 | 7=>∃ tb sb,B≤tb∧B≤sb∧v=.agg #[.int .i64 (V:Int),.int .i64 0,.int .i64 0,.slice (some ⟨tb,0,none⟩) T T,.slice (some ⟨sb,0,none⟩) S S]∧aA w tb (fH (List.replicate T (vU Th.zero))) 93∧aA w sb (fH (List.replicate S (lU (-1,0)))) 83
 | 8=>∃ c tb sb,B≤c∧B≤tb∧B≤sb∧v=.pointer (some ⟨c,0,none⟩)∧fK w c tb sb (fF T V S) 0
 | 9=>∃ c tb sb,B≤c∧B≤tb∧B≤sb∧v=.pointer (some ⟨c,0,none⟩)∧fK w c tb sb (fF T V S) 0
 | _=>v=.int .i64 0
theorem zJ.below {T V S B i:Nat} {v:Value} {w w':World} (h:zJ T V S B i v w) (hb:Below w.heap.size w w'):zJ T V S B i v w':=by
 unfold zJ at h⊢
 split at h
 ·exact h
 ·exact h
 ·obtain⟨b,h1,h2,h3⟩:=h;exact⟨b,h1,h2,h3.below hb⟩
 ·exact h
 ·obtain⟨b,h1,h2,h3⟩:=h;exact⟨b,h1,later hb h2,later hb h3⟩
 ·exact h
 ·obtain⟨b,h1,h2,h3⟩:=h;exact⟨b,h1,h2,h3.below hb⟩
 ·obtain⟨b,b2,h0,h1,h2,h3,h4⟩:=h;exact⟨b,b2,h0,h1,h2,h3.below hb,h4.below hb⟩
 ·obtain⟨b,b2,b3,h0,h1,h2,h3,h4⟩:=h;exact⟨b,b2,b3,h0,h1,h2,h3,aY.below h4 hb⟩
 ·obtain⟨b,b2,b3,h0,h1,h2,h3,h4⟩:=h;exact⟨b,b2,b3,h0,h1,h2,h3,aY.below h4 hb⟩
 ·exact h
theorem NW {w:World} {tb sb T V S:Nat} (h1:aA w tb (fH (List.replicate T (vU Th.zero))) 93) (h2:aA w sb (fH (List.replicate S (lU (-1,0)))) 83):
  fK (w.alloc (.cells #[.int .i64 (V:Int),.int .i64 0,.int .i64 0,.slice (some ⟨tb,0,none⟩) T T,.slice (some ⟨sb,0,none⟩) S S] 85)) w.heap.size tb sb (fF T V S) 0:=by
 have l1:=h1.lt
 have l2:=h2.lt
 have hne:tb≠sb:=by
  rintro rfl
  unfold aA at h1 h2
  rw[h1]at h2
  simp at h2
 refine⟨?_,?_,?_,⟨by omega,by omega,hne⟩,?_,?_,by simp,by simp⟩
 ·have:=aA.new w #[.int .i64 (V:Int),.int .i64 0,.int .i64 0,.slice (some ⟨tb,0,none⟩) T T,.slice (some ⟨sb,0,none⟩) S S] 85
  simpa[fF]using this
 ·simpa[fF]using h1.alloc _
 ·simpa[fF]using h2.alloc _
 ·intro r hr
  obtain⟨t,-,rfl⟩:=List.mem_map.1 hr
  rfl
 ·intro r hr
  obtain⟨t,-,rfl⟩:=List.mem_map.1 hr
  rfl
set_option maxRecDepth 100000 in
set_option maxHeartbeats 2000000 in
theorem MH (T V S:Nat) (w:World) (h1:T≤6) (h2:1≤V) (h3:V≤32) (h4:1≤S) (h5:S≤V):
  Calls Tryd.prog 21 #[.int .i64 (T:Int),.int .i64 (V:Int),.int .i64 (S:Int)] w fun e w'=>∃ c tb sb,w.heap.size≤c∧w.heap.size≤tb∧w.heap.size≤sb∧e=.returned (.tuple #[.pointer (some ⟨c,0,none⟩),.int .i64 0])∧fK w' c tb sb (fF T V S) 0∧Below w.heap.size w w':=by
 have g1:decide ((T:Int) < 0)=false:=by rw[decide_eq_false_iff_not];omega
 have g2:decide ((6:Int) < (T:Int))=false:=by rw[decide_eq_false_iff_not];omega
 have g3:decide ((V:Int) < 1)=false:=by rw[decide_eq_false_iff_not];omega
 have g4:decide ((32:Int) < (V:Int))=false:=by rw[decide_eq_false_iff_not];omega
 have g5:decide ((S:Int) < 1)=false:=by rw[decide_eq_false_iff_not];omega
 have g6:decide ((V:Int) < (S:Int))=false:=by rw[decide_eq_false_iff_not];omega
 have g7:decide (V < S)=false:=by rw[decide_eq_false_iff_not];omega
 have C9:=hid (fun W=>LZ W T h1)
 have Zh:=hid (fun x W c0 c1=>F7 x S W c0 c1 h4 (by omega))
 clear h1 h2 h3 h4 h5
 go_enter Tryd.func21,Tryd.ntmps21
 go_wp2_with fail
 apply uH (zJ T V S w.heap.size) (fun w'=>Below w.heap.size w w') (fun _ w1 w2=>Below w1.heap.size w1 w2)
 focus (intro vals;simp[ay,aB,Act.put,List.getD];rfl)
 case hm=>kernel_rfl
 case hd=>kernel_rfl
 case hb=>kernel_rfl
 case kJ=>kernel_rfl
 case hsel=>kernel_rfl
 case iR=>kernel_rfl
 case hgv=>repeat' (first | exact trivial | (refine And.intro ?_ ?_))
 case hsz=>kernel_rfl
 case rM=>intro i j v w1 w2 _ hv hb;exact hv.below hb
 case h0=>exact aj (af _)
 case hstep=>
  refine⟨?_,?_,?_,?_,?_,?_,?_,?_,?_,?_,?_,trivial⟩
  ·intro vals w' hG hV K Qp hK
   go_simp
   exact hK (.int .i64 (V:Int)) w' rfl hG (af _)
  ·intro vals w' hG hV K Qp hK
   go_simp
   exact hK (.int .i64 (T:Int)) w' rfl hG (af _)
  ·intro vals w' hG hV K Qp hK
   have v1:vals 1=.int .i64 (T:Int):=hV 1 rfl
   simp only[v1]at hK
   go_simp
   rw[C9.out]
   go_simp
   exact hK (.slice (some ⟨w'.heap.size,0,none⟩) T T) _ ⟨_,hG.size,rfl,aA.new _ _ _⟩ (ah hG _) (ah (af _) _)
  ·intro vals w' hG hV K Qp hK
   go_simp
   exact hK (.agg #[.int .i64 (-1),.int .i64 0]) w' rfl hG (af _)
  ·intro vals w' hG hV K Qp hK
   have v3:vals 3=.agg #[.int .i64 (-1),.int .i64 0]:=hV 3 rfl
   simp only[v3]at hK
   go_simp
   go_wp2_with fail
   have hb0:=aA.new w' #[.int .i64 (-1),.int .i64 0] 83
   exact hK (.slice (some ⟨w'.heap.size,0,none⟩) 1 1) _ ⟨_,rfl,hb0.cell 0 rfl,hb0.cell 1 rfl⟩ (ah hG _) (ah (af _) _)
  ·intro vals w' hG hV K Qp hK
   go_simp
   exact hK (.int .i64 (S:Int)) w' rfl hG (af _)
  ·intro vals w' hG hV K Qp hK
   obtain⟨b,v4,c0,c1⟩:zJ T V S w.heap.size 4 (vals 4) w':=hV 4 rfl
   have v5:vals 5=.int .i64 (S:Int):=hV 5 rfl
   simp only[v4,v5]at hK
   go_simp
   refine(Zh.out b w' c0 c1).mono ?_
   rintro e' w1 ⟨rfl,hb,hblk⟩
   exact hK (.slice (some ⟨w'.heap.size,0,none⟩) S S) _ ⟨_,hG.size,rfl,hblk⟩ (ag hG hb) hb
  ·intro vals w' hG hV K Qp hK
   have v0:vals 0=.int .i64 (V:Int):=hV 0 rfl
   obtain⟨tb,t1,v2,t2⟩:zJ T V S w.heap.size 2 (vals 2) w':=hV 2 rfl
   obtain⟨sb,s1,v6,s2⟩:zJ T V S w.heap.size 6 (vals 6) w':=hV 6 rfl
   simp only[v0,v2,v6]at hK
   go_simp
   go_simp
   exact hK _ w' ⟨tb,sb,t1,s1,rfl,t2,s2⟩ hG (af _)
  ·intro vals w' hG hV K Qp hK
   obtain⟨tb,sb,t1,s1,v7,t2,s2⟩:zJ T V S w.heap.size 7 (vals 7) w':=hV 7 rfl
   simp only[v7]at hK
   go_simp
   go_wp2_with fail
   exact hK (.pointer (some ⟨w'.heap.size,0,none⟩)) _ ⟨_,tb,sb,hG.size,t1,s1,rfl,NW t2 s2⟩ (ah hG _) (ah (af _) _)
  ·intro vals w' hG hV K Qp hK
   obtain⟨c,tb,sb,c1,t1,s1,v8,h8⟩:zJ T V S w.heap.size 8 (vals 8) w':=hV 8 rfl
   simp only[v8]at hK
   go_simp
   exact hK (.pointer (some ⟨c,0,none⟩)) w' ⟨c,tb,sb,c1,t1,s1,rfl,h8⟩ hG (af _)
  ·intro vals w' hG hV K Qp hK
   go_simp
   exact hK (.int .i64 0) w' rfl hG (af _)
 case hdone=>
  intro vals w' hG hV
  obtain⟨c,tb,sb,c1,t1,s1,v9,h9⟩:zJ T V S w.heap.size 9 (vals 9) w':=hV 9 (by decide)
  have v10:vals 10=.int .i64 0:=hV 10 (by decide)
  try simp only[v9,v10]
  go_wp2_with fail
  go_ret2
  exact⟨c,tb,sb,c1,t1,s1,rfl,h9,hG⟩
end Go.Proofs.YtcddlnmcjmhbcaaDoor
-- short
