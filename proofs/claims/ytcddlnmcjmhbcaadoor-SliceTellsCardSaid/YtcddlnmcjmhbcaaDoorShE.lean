/-
  Walks: event.May and what it calls.
-/
import Derived.Test.YtcddlnmcjmhbcaaDoorProg
import Derived.Test.YtcddlnmcjmhbcaaDoorRgG
import Derived.Test.YtcddlnmcjmhbcaaDoorRgF
import Derived.Deep.QuietTactic
import Derived.BigQuiet
import Derived.Deep.RegionHeld3
namespace Go.Proofs.YtcddlnmcjmhbcaaDoor
set_option linter.unusedVariables false
open Go Go.RowKit
def qM (e:Ev):List Value:=[.int .u8 e.kind,.int .i64 e.th,.int .i64 e.tx,.int .i64 e.at_,.int .i64 e.v,.int .i64 e.x,.int .u8 e.why]
def jL (e:Ev):Value:=.agg #[.int .u8 e.kind,.int .i64 e.th,.int .i64 e.tx,.int .i64 e.at_,.int .i64 e.v,.int .i64 e.x,.int .u8 e.why]
def eG (e:Ev):Array Value:=#[.int .u8 e.kind,.int .i64 e.th,.int .i64 e.tx,.int .i64 e.at_,.int .i64 e.v,.int .i64 e.x,.int .u8 e.why]
def jr (e:Ev):Prop:=(0≤e.kind∧e.kind≤255)∧(-9223372036854775808≤e.th∧e.th≤9223372036854775807)∧(-9223372036854775808≤e.tx∧e.tx≤9223372036854775807)∧(-9223372036854775808≤e.at_∧e.at_≤9223372036854775807)∧
 (-9223372036854775808≤e.v∧e.v≤9223372036854775807)∧(-9223372036854775808≤e.x∧e.x≤9223372036854775807)∧(0≤e.why∧e.why≤255)
set_option maxRecDepth 100000 in
set_option maxHeartbeats 4000000 in
theorem FK (n a b:Int) (w:World) (h1:a≤n) (h2:n≤b):Calls Tryd.prog 76 #[.int .i64 n,.int .i64 a,.int .i64 b] w fun e w'=>e=.returned (.bool true)∧w=w':=by
 go_enter Tryd.func76,Tryd.ntmps76
 go_wp2_with fail
 go_ret
 exact⟨by simp,rfl⟩
set_option maxRecDepth 100000 in
set_option maxHeartbeats 4000000 in
theorem Jn (n a b:Int) (w:World) (h:n < a∨b < n):Calls Tryd.prog 76 #[.int .i64 n,.int .i64 a,.int .i64 b] w fun e w'=>e=.returned (.bool false)∧w=w':=by
 by_cases h1:n < a
 ·go_enter Tryd.func76,Tryd.ntmps76
  go_wp2_with fail
  go_ret
  exact⟨rfl,rfl⟩
 ·have h2:b < n:=by omega
  have h3:a≤n:=by omega
  clear h h1
  go_enter Tryd.func76,Tryd.ntmps76
  go_wp2_with fail
  go_ret
  exact⟨by simp;omega,rfl⟩
def inB (n a b:Int):Bool:=decide (a≤n∧n≤b)
theorem iD (n a b:Int) (w:World):Calls Tryd.prog 76 #[.int .i64 n,.int .i64 a,.int .i64 b] w fun e w'=>e=.returned (.bool (inB n a b))∧w=w':=by
 by_cases h:a≤n∧n≤b
 ·refine(FK n a b w h.1 h.2).mono ?_
  rintro e w' ⟨rfl,rfl⟩
  exact⟨by simp[inB,h],rfl⟩
 ·refine(Jn n a b w (by omega)).mono ?_
  rintro e w' ⟨rfl,rfl⟩
  exact⟨by simp[inB,h],rfl⟩
set_option maxRecDepth 100000 in
set_option maxHeartbeats 4000000 in
theorem sQ (k:Int) (w:World):Calls Tryd.prog 77 #[.int .u8 k] w fun e w'=>e=.returned (.bool (inB k 1 13))∧w=w':=by
 by_cases h1:k < 1
 ·have HI:Hid (inB k 1 13=false):=hid (by unfold inB;rw[decide_eq_false_iff_not];omega)
  go_enter Tryd.func77,Tryd.ntmps77
  go_wp2_with fail
  go_ret
  rw[HI.out];exact⟨rfl,rfl⟩
 ·have h3:1≤k:=by omega
  have HI:Hid (inB k 1 13=decide (k≤13)):=hid (by unfold inB;simp[h3])
  go_enter Tryd.func77,Tryd.ntmps77
  go_wp2_with fail
  go_ret
  rw[HI.out];exact⟨rfl,rfl⟩
set_option maxRecDepth 100000 in
set_option maxHeartbeats 4000000 in
theorem TG (b:Nat) (n:Int) (w:World) (hc:w.cell? ⟨b,2,none⟩=some (.int .i64 n)) (h:-9223372036854775808≤n∧n≤9223372036854775807):
  Calls Tryd.prog 115 #[.pointer (some ⟨b,0,none⟩),.slice none 0 0] w fun e w'=>e=.returned (.int .i64 n)∧w=w':=by
 go_enter Tryd.func115,Tryd.ntmps115
 go_wp2_with fail
 refine wp_loop_rounds 1 ?_;rw[rounds_succ]
 go_wp2_with fail
 go_ret
 exact⟨rfl,rfl⟩
set_option maxRecDepth 100000 in
set_option maxHeartbeats 4000000 in
theorem Sv (b q:Nat) (n:Int) (cs:Array Value) (t:TypeId) (w:World) (hb:aA w b cs t) (hs:2 < cs.size) (hne:q≠b) (hq:w.cell? ⟨q,0,none⟩=some (.int .i64 n)) (h:-9223372036854775808≤n∧n≤9223372036854775807):
  Calls Tryd.prog 115 #[.pointer (some ⟨b,0,none⟩),.slice (some ⟨q,0,none⟩) 1 1] w fun e w'=>e=.returned (.int .i64 n)∧aA w' b (cs.setIfInBounds 2 (.int .i64 n)) t∧Turn [b] w w':=by
 have HB:=hid (hb.set 2 (.int .i64 n))
 have hc:w.cell? ⟨b,2,none⟩=some cs[2]:=hb.cell 2 (by simp[hs])
 have hf:w.frozen? ⟨b,2,none⟩=false:=hb.free 2
 have hc2:(w.setCell ⟨b,2,none⟩ (.int .i64 n)).cell? ⟨b,2,none⟩=some (.int .i64 n):=(hb.set 2 (.int .i64 n)).cell 2 (by simp[hs])
 clear hb
 go_enter Tryd.func115,Tryd.ntmps115
 go_wp2_with fail
 refine wp_loop_rounds 2 ?_;rw[rounds_succ]
 go_wp2_with fail
 rw[rounds_succ]
 go_wp2_with fail
 go_ret
 exact⟨rfl,HB.out,(Turn.refl _ _).setCell (Or.inl (by simp)) _⟩
set_option maxRecDepth 100000 in
set_option maxHeartbeats 4000000 in
theorem get_at (b:Nat) (n:Int) (w:World) (hc:w.cell? ⟨b,3,none⟩=some (.int .i64 n)) (h:-9223372036854775808≤n∧n≤9223372036854775807):
  Calls Tryd.prog 113 #[.pointer (some ⟨b,0,none⟩),.slice none 0 0] w fun e w'=>e=.returned (.int .i64 n)∧w=w':=by
 go_enter Tryd.func113,Tryd.ntmps113
 go_wp2_with fail
 refine wp_loop_rounds 1 ?_;rw[rounds_succ]
 go_wp2_with fail
 go_ret
 exact⟨rfl,rfl⟩
set_option maxRecDepth 100000 in
set_option maxHeartbeats 4000000 in
theorem ru (b q:Nat) (n:Int) (cs:Array Value) (t:TypeId) (w:World) (hb:aA w b cs t) (hs:3 < cs.size) (hne:q≠b) (hq:w.cell? ⟨q,0,none⟩=some (.int .i64 n)) (h:-9223372036854775808≤n∧n≤9223372036854775807):
  Calls Tryd.prog 113 #[.pointer (some ⟨b,0,none⟩),.slice (some ⟨q,0,none⟩) 1 1] w fun e w'=>e=.returned (.int .i64 n)∧aA w' b (cs.setIfInBounds 3 (.int .i64 n)) t∧Turn [b] w w':=by
 have HB:=hid (hb.set 3 (.int .i64 n))
 have hc:w.cell? ⟨b,3,none⟩=some cs[3]:=hb.cell 3 (by simp[hs])
 have hf:w.frozen? ⟨b,3,none⟩=false:=hb.free 3
 have hc2:(w.setCell ⟨b,3,none⟩ (.int .i64 n)).cell? ⟨b,3,none⟩=some (.int .i64 n):=(hb.set 3 (.int .i64 n)).cell 3 (by simp[hs])
 clear hb
 go_enter Tryd.func113,Tryd.ntmps113
 go_wp2_with fail
 refine wp_loop_rounds 2 ?_;rw[rounds_succ]
 go_wp2_with fail
 rw[rounds_succ]
 go_wp2_with fail
 go_ret
 exact⟨rfl,HB.out,(Turn.refl _ _).setCell (Or.inl (by simp)) _⟩
set_option maxRecDepth 100000 in
set_option maxHeartbeats 4000000 in
theorem IX (b:Nat) (n:Int) (w:World) (hc:w.cell? ⟨b,4,none⟩=some (.int .i64 n)) (h:-9223372036854775808≤n∧n≤9223372036854775807):
  Calls Tryd.prog 116 #[.pointer (some ⟨b,0,none⟩),.slice none 0 0] w fun e w'=>e=.returned (.int .i64 n)∧w=w':=by
 go_enter Tryd.func116,Tryd.ntmps116
 go_wp2_with fail
 refine wp_loop_rounds 1 ?_;rw[rounds_succ]
 go_wp2_with fail
 go_ret
 exact⟨rfl,rfl⟩
set_option maxRecDepth 100000 in
set_option maxHeartbeats 4000000 in
theorem IC (b q:Nat) (n:Int) (cs:Array Value) (t:TypeId) (w:World) (hb:aA w b cs t) (hs:4 < cs.size) (hne:q≠b) (hq:w.cell? ⟨q,0,none⟩=some (.int .i64 n)) (h:-9223372036854775808≤n∧n≤9223372036854775807):
  Calls Tryd.prog 116 #[.pointer (some ⟨b,0,none⟩),.slice (some ⟨q,0,none⟩) 1 1] w fun e w'=>e=.returned (.int .i64 n)∧aA w' b (cs.setIfInBounds 4 (.int .i64 n)) t∧Turn [b] w w':=by
 have HB:=hid (hb.set 4 (.int .i64 n))
 have hc:w.cell? ⟨b,4,none⟩=some cs[4]:=hb.cell 4 (by simp[hs])
 have hf:w.frozen? ⟨b,4,none⟩=false:=hb.free 4
 have hc2:(w.setCell ⟨b,4,none⟩ (.int .i64 n)).cell? ⟨b,4,none⟩=some (.int .i64 n):=(hb.set 4 (.int .i64 n)).cell 4 (by simp[hs])
 clear hb
 go_enter Tryd.func116,Tryd.ntmps116
 go_wp2_with fail
 refine wp_loop_rounds 2 ?_;rw[rounds_succ]
 go_wp2_with fail
 rw[rounds_succ]
 go_wp2_with fail
 go_ret
 exact⟨rfl,HB.out,(Turn.refl _ _).setCell (Or.inl (by simp)) _⟩
set_option maxRecDepth 100000 in
set_option maxHeartbeats 4000000 in
theorem Rq (b:Nat) (n:Int) (w:World) (hc:w.cell? ⟨b,5,none⟩=some (.int .i64 n)) (h:-9223372036854775808≤n∧n≤9223372036854775807):
  Calls Tryd.prog 117 #[.pointer (some ⟨b,0,none⟩),.slice none 0 0] w fun e w'=>e=.returned (.int .i64 n)∧w=w':=by
 go_enter Tryd.func117,Tryd.ntmps117
 go_wp2_with fail
 refine wp_loop_rounds 1 ?_;rw[rounds_succ]
 go_wp2_with fail
 go_ret
 exact⟨rfl,rfl⟩
set_option maxRecDepth 100000 in
set_option maxHeartbeats 4000000 in
theorem Q7 (b q:Nat) (n:Int) (cs:Array Value) (t:TypeId) (w:World) (hb:aA w b cs t) (hs:5 < cs.size) (hne:q≠b) (hq:w.cell? ⟨q,0,none⟩=some (.int .i64 n)) (h:-9223372036854775808≤n∧n≤9223372036854775807):
  Calls Tryd.prog 117 #[.pointer (some ⟨b,0,none⟩),.slice (some ⟨q,0,none⟩) 1 1] w fun e w'=>e=.returned (.int .i64 n)∧aA w' b (cs.setIfInBounds 5 (.int .i64 n)) t∧Turn [b] w w':=by
 have HB:=hid (hb.set 5 (.int .i64 n))
 have hc:w.cell? ⟨b,5,none⟩=some cs[5]:=hb.cell 5 (by simp[hs])
 have hf:w.frozen? ⟨b,5,none⟩=false:=hb.free 5
 have hc2:(w.setCell ⟨b,5,none⟩ (.int .i64 n)).cell? ⟨b,5,none⟩=some (.int .i64 n):=(hb.set 5 (.int .i64 n)).cell 5 (by simp[hs])
 clear hb
 go_enter Tryd.func117,Tryd.ntmps117
 go_wp2_with fail
 refine wp_loop_rounds 2 ?_;rw[rounds_succ]
 go_wp2_with fail
 rw[rounds_succ]
 go_wp2_with fail
 go_ret
 exact⟨rfl,HB.out,(Turn.refl _ _).setCell (Or.inl (by simp)) _⟩
set_option maxRecDepth 100000 in
set_option maxHeartbeats 4000000 in
theorem Qi (b:Nat) (n:Int) (w:World) (hc:w.cell? ⟨b,6,none⟩=some (.int .u8 n)) (h:0≤n∧n≤255):
  Calls Tryd.prog 118 #[.pointer (some ⟨b,0,none⟩),.slice none 0 0] w fun e w'=>e=.returned (.int .i64 n)∧w=w':=by
 go_enter Tryd.func118,Tryd.ntmps118
 go_wp2_with fail
 refine wp_loop_rounds 1 ?_;rw[rounds_succ]
 go_wp2_with fail
 go_ret
 exact⟨rfl,rfl⟩
set_option maxRecDepth 100000 in
set_option maxHeartbeats 4000000 in
theorem PL (b q:Nat) (n:Int) (cs:Array Value) (t:TypeId) (w:World) (hb:aA w b cs t) (hs:6 < cs.size) (hne:q≠b) (hq:w.cell? ⟨q,0,none⟩=some (.int .i64 n)) (h:0≤n∧n≤255):
  Calls Tryd.prog 118 #[.pointer (some ⟨b,0,none⟩),.slice (some ⟨q,0,none⟩) 1 1] w fun e w'=>e=.returned (.int .i64 n)∧aA w' b (cs.setIfInBounds 6 (.int .u8 n)) t∧Turn [b] w w':=by
 have HB:=hid (hb.set 6 (.int .u8 n))
 have hc:w.cell? ⟨b,6,none⟩=some cs[6]:=hb.cell 6 (by simp[hs])
 have hf:w.frozen? ⟨b,6,none⟩=false:=hb.free 6
 have hc2:(w.setCell ⟨b,6,none⟩ (.int .u8 n)).cell? ⟨b,6,none⟩=some (.int .u8 n):=(hb.set 6 (.int .u8 n)).cell 6 (by simp[hs])
 clear hb
 go_enter Tryd.func118,Tryd.ntmps118
 go_wp2_with fail
 refine wp_loop_rounds 2 ?_;rw[rounds_succ]
 go_wp2_with fail
 rw[rounds_succ]
 go_wp2_with fail
 go_ret
 exact⟨rfl,HB.out,(Turn.refl _ _).setCell (Or.inl (by simp)) _⟩
theorem jK {w:World} {b:Nat} {cs ds:Array Value} {t:TypeId} (h:aA w b cs t) (e:cs=ds):aA w b ds t:=e ▸ h
def Ci:List (List FuncId):=[[],[115,116],[113,116],[113,117],[113],[116],[113],[116],
 [113,117],[113],[118,113],[113],[],[]]
def CX (w:World) (k:Nat) (fs:List FuncId):Prop:=
 ∃ a cap,w.cell? ⟨0,k*2+1,none⟩=some (.slice a fs.length cap)∧(fs=[]→a=none∧cap=0)∧(fs≠[]→∃ b o,a=some ⟨b,o,none⟩∧∀ i (h:i < fs.length),w.cell? ⟨b,o+i,none⟩=some (.func (.func fs[i]) #[] #[]))
def bn (w:World):Prop:=∀ k fs,Ci[k]? =some fs→CX w k fs
theorem CX.below {w w':World} (hb:Below w.heap.size w w') {k:Nat} {fs:List FuncId} (h:CX w k fs):CX w' k fs:=by
 obtain⟨a,cap,h1,h2,h3⟩:=h
 refine⟨a,cap,later hb h1,h2,fun hne=>?_⟩
 obtain⟨b,o,h4,h5⟩:=h3 hne
 exact⟨b,o,h4,fun i hi=>later hb (h5 i hi)⟩
theorem bn.below {w w':World} (hb:Below w.heap.size w w') (h:bn w):bn w':=fun k fs hk=>(h k fs hk).below hb
end Go.Proofs.YtcddlnmcjmhbcaaDoor
-- short
