/-
  event.May: what it comes to.
-/
import Derived.Test.YtcddlnmcjmhbcaaDoorRgJ
import Derived.Test.YtcddlnmcjmhbcaaDoorShH
import Derived.Test.YtcddlnmcjmhbcaaDoorShM
namespace Go.Proofs.YtcddlnmcjmhbcaaDoor
set_option linter.unusedVariables false
open Go Go.RowKit
theorem Qw (e:Ev) (he:jr e) (hk:1≤e.kind∧e.kind≤13):OL e:=by
 intro w hK
 obtain⟨kind,th,tx,at_,v,x,why⟩:=e
 dsimp only at hk
 have hc:kind=1∨kind=2∨kind=3∨kind=4∨kind=5∨kind=6∨kind=7∨kind=8∨kind=9∨kind=10∨kind=11∨kind=12∨kind=13:=by omega
 rcases hc with rfl | rfl | rfl | rfl | rfl | rfl | rfl | rfl | rfl | rfl | rfl | rfl | rfl
 ·exact Uc th tx at_ v x why w hK he
 ·exact Ub th tx at_ v x why w hK he
 ·exact Ua th tx at_ v x why w hK he
 ·exact TZ th tx at_ v x why w hK he
 ·exact TY th tx at_ v x why w hK he
 ·exact TW th tx at_ v x why w hK he
 ·exact TV th tx at_ v x why w hK he
 ·exact TU th tx at_ v x why w hK he
 ·exact TT th tx at_ v x why w hK he
 ·exact QA th tx at_ v x why w hK he
 ·exact Qz th tx at_ v x why w hK he
 ·exact Qy th tx at_ v x why w hK he
 ·exact Qx th tx at_ v x why w hK he
theorem II (e:Ev) (T V S:Int) (w:World) (he:jr e) (hK:bn w):
  Calls Tryd.prog 40 #[jL e,.int .i64 T,.int .i64 V,.int .i64 S] w fun e' w'=>e'=.returned (.bool (jH e T V S))∧Below w.heap.size w w':=by
 by_cases h1:(kD T V S&&inB e.kind 1 13)=false
 ·have hm:jH e T V S=false:=by
   unfold jH
   cases hs:kD T V S with
   | false=>rfl
   | true=>
    rw[hs]at h1
    have:¬ (1≤e.kind∧e.kind≤13):=by simpa[inB]using h1
    rw[decide_eq_false (by omega),Bool.and_false,Bool.false_and]
  rw[hm];exact JW e T V S w h1
 have h1':kD T V S=true∧inB e.kind 1 13=true:=by
  revert h1;cases kD T V S <;> cases inB e.kind 1 13 <;> simp
 have hk:1≤e.kind∧e.kind≤13:=by simpa[inB]using h1'.2
 have hs:1≤T∧T≤6∧1≤V∧V≤32∧1≤S∧S≤V:=by simpa[kD]using h1'.1
 have a1:inB T 1 6=true:=by simp[inB];omega
 have a2:inB V 1 32=true:=by simp[inB];omega
 have a3:inB S 1 V=true:=by simp[inB];omega
 by_cases hw:e.kind=10∧(e.why < 1∨6 < e.why)
 ·have hm:jH e T V S=false:=by
   unfold jH
   rw[decide_eq_false (p:=1≤e.kind∧_) (by omega),Bool.and_false,Bool.false_and]
  rw[hm];exact P5 e T V S w a1 a2 a3 h1'.2 hw.1 hw.2
 ·have hw':e.kind=10→1≤e.why∧e.why≤6:=by omega
  have hm:jH e T V S=(lastB e T V S&&oL e (aT e)):=by
   unfold jH lastB inB oL
   rw[h1'.1,Bool.true_and]
   congr 1
   rw[←Bool.decide_and,←Bool.decide_and,←Bool.decide_and]
   apply decide_eq_decide.2
   omega
  rw[hm];exact ML e T V S w (Qw e he hk) hK a1 a2 a3 h1'.2 hw'
end Go.Proofs.YtcddlnmcjmhbcaaDoor
-- short
