/-
  The checker; walks: the least bit, and the smaller methods.
-/
import Derived.Test.YtcddlnmcjmhbcaaDoorShC
import Derived.Shelf.Spec.TrailingZeros
namespace Go.Proofs.YtcddlnmcjmhbcaaDoor
set_option linter.unusedVariables false
open Go Go.RowKit
theorem KC {m:Nat} (hm:m < 4294967296) (h0:m≠0):Lib.ctz 32 m=bH m:=by
 obtain⟨q,hq,hk⟩:=Lib.ctzFrom_spec 32 m (by omega) hm
 have e:Lib.ctz 32 m=Lib.ctzFrom 32 m:=by simp[Lib.ctz,h0]
 rw[e]
 generalize Lib.ctzFrom 32 m=k at hq hk
 have hb:∀ i,m.testBit i=(decide (k≤i)&&(2*q+1).testBit (i-k)):=by
  intro i;rw[hq,Nat.mul_comm,Nat.testBit_mul_two_pow]
 have h1:m.testBit k=true:=by rw[hb];simp[Nat.testBit_zero]
 have h2:=yK h1 hk
 have h3:bH m < 32:=by omega
 have h4:=iw h3
 rw[hb,Bool.and_eq_true,decide_eq_true_eq]at h4
 omega
theorem D9:bH 0=32:=by decide
def gJ (w:World):Prop:=∀ i,i < 32→w.cell? ⟨2,i,none⟩=some (.int .u8 ((Lib.deBruijn32tab.getD i 0:Nat):Int))
theorem gJ.below {w w':World} (hb:Below w.heap.size w w') (h:gJ w):gJ w':=fun i hi=>later hb (h i hi)
set_option maxRecDepth 100000 in
set_option maxHeartbeats 4000000 in
theorem O4 (w:World):Calls Tryd.prog 94 #[.int .u32 0] w fun e w'=>e=.returned (.int .i64 32)∧w=w':=by
 go_enter Tryd.func94,Tryd.ntmps94
 go_wp2_with fail
 go_ret
 exact⟨rfl,rfl⟩
set_option maxRecDepth 100000 in
set_option maxHeartbeats 4000000 in
theorem O5 (x k idx:Nat) (w:World) (hx0:((x:Int)==0)=false)
  (key:bits BinOp.and IntKind.u32 (x:Int) (-(x:Int) % 4294967296)*125613361 % 4294967296 / 134217728=(idx:Int))
  (hi:idx < 32) (hk:k < 32) (hcell:w.cell? ⟨2,idx,none⟩=some (.int .u8 (k:Int))):
  Calls Tryd.prog 94 #[.int .u32 (x:Int)] w fun e w'=>e=.returned (.int .i64 (k:Int))∧w=w':=by
 go_enter Tryd.func94,Tryd.ntmps94
 go_wp2_with (simp only[key])
 go_ret
 exact⟨rfl,rfl⟩
theorem RU (x:Nat) (hx:x < 4294967296) (w:World) (hT:gJ w):Calls Tryd.prog 94 #[.int .u32 (x:Int)] w fun e w'=>e=.returned (.int .i64 (bH x:Int))∧w=w':=by
 by_cases hx0:x=0
 ·subst hx0;rw[D9];exact O4 w
 ·obtain⟨hlow,hk⟩:=Lib.lowest_bit 32 x hx0 hx
  rw[KC hx hx0]at hlow hk
  obtain⟨hi,htab⟩:=Lib.deBruijn32_at _ hk
  have hcell:=hT _ hi
  rw[htab]at hcell
  exact O5 x _ _ w (by simp;omega) (tz32_key x _ hx hx0 hlow) hi hk hcell
set_option maxRecDepth 100000 in
set_option maxHeartbeats 4000000 in
theorem pO (x:Nat) (hx:x < 4294967296) (w:World) (hT:gJ w):Calls Tryd.prog 81 #[.int .u32 (x:Int)] w fun e w'=>e=.returned (.int .i64 (bH x:Int))∧w=w':=by
 have H:=hid (RU x hx w hT)
 clear hT
 go_enter Tryd.func81,Tryd.ntmps81
 go_wp2_with fail
 refine H.out.mono ?_
 rintro e w' ⟨rfl,rfl⟩
 go_wp2_with fail
 go_ret
 exact⟨rfl,rfl⟩
section
variable {w:World} {c tb sb:Nat} {s:Sh} {ev:Nat}
set_option maxRecDepth 100000 in
set_option maxHeartbeats 4000000 in
theorem yC (h:fK w c tb sb s ev) (i:Nat) (hi:i < s.aX.length) (kind th tx at_ v x why:Int):Calls Tryd.prog 82 #[.pointer (some ⟨c,0,none⟩),.int .i64 (i:Int),.agg #[.int .u8 kind,.int .i64 th,.int .i64 tx,.int .i64 at_,.int .i64 v,.int .i64 x,.int .u8 why]] w
  fun e w'=>e=.returned (.bool (s.yD i th))∧Below w.heap.size w w':=by
 have hA:=h.alloc (.cells #[.int .u8 kind,.int .i64 th,.int .i64 tx,.int .i64 at_,.int .i64 v,.int .i64 x,.int .u8 why] 49)
 have c4:=h.cells.2.2.2.2
 have s0:=(h.si hi).1
 have HF:Hid (∀ n,Calls Tryd.prog 79 #[.pointer (some ⟨c,0,none⟩),.int .i64 (i:Int)] ((w.alloc (.cells #[.int .u8 kind,.int .i64 th,.int .i64 tx,.int .i64 at_,.int .i64 v,.int .i64 x,.int .u8 why] 49)).drewN n) fun e w'=>e=.returned (.bool (s.own i== -1))∧w'=(w.alloc (.cells #[.int .u8 kind,.int .i64 th,.int .i64 tx,.int .i64 at_,.int .i64 v,.int .i64 x,.int .u8 why] 49)).drewN n):=
  hid fun n=>(nX (s:=s) (ev:=ev) (hA.drewN n) i hi).mono fun e w' ⟨h1,h2⟩=>⟨h1,h2.symm⟩
 have g:(0:Int)≤(i:Int):=by omega
 have g2:(i:Int) < (s.aX.length:Int):=by omega
 have c4':=aG (x:=.cells #[.int .u8 kind,.int .i64 th,.int .i64 tx,.int .i64 at_,.int .i64 v,.int .i64 x,.int .u8 why] 49) c4
 have s0':=aG (x:=.cells #[.int .u8 kind,.int .i64 th,.int .i64 tx,.int .i64 at_,.int .i64 v,.int .i64 x,.int .u8 why] 49) s0
 clear h hA c4 s0
 by_cases hf:s.own i=-1
 ·have k1:(s.own (i:Int)== -1)=true:=by rw[beq_iff_eq];exact hf
  have k2:(s.own (i:Int) !=-1)=false:=by unfold bne;rw[k1];rfl
  have HR:Hid (s.yD (i:Int) th=false):=hid (by unfold Sh.yD;simp[hf])
  clear hf
  go_enter Tryd.func82,Tryd.ntmps82
  go_wp2_with fail
  go_quiet ((go_at_call 79;exact Calls.quiet_of_same (HF.out _)))
  go_wp2_with fail
  go_ret
  exact⟨by rw[HR.out];rfl,ai (by repeat (first | assumption | exact af _ | refine aj ?_ | refine ah ?_ _ | refine ag ?_ (by assumption))) _⟩
 ·have k1:(s.own (i:Int)== -1)=false:=by rw[beq_eq_false_iff_ne];exact hf
  have k2:(s.own (i:Int) !=-1)=true:=by unfold bne;rw[k1];rfl
  have HR:Hid (s.yD (i:Int) th=(s.own (i:Int) !=th)):=hid (by unfold Sh.yD;simp[hf,bne];rfl)
  clear hf
  go_enter Tryd.func82,Tryd.ntmps82
  go_wp2_with fail
  go_quiet ((go_at_call 79;exact Calls.quiet_of_same (HF.out _)))
  go_wp2_with fail
  go_ret
  exact⟨by rw[HR.out];rfl,ai (by repeat (first | assumption | exact af _ | refine aj ?_ | refine ah ?_ _ | refine ag ?_ (by assumption))) _⟩
set_option maxRecDepth 100000 in
set_option maxHeartbeats 4000000 in
theorem Aj (h:fK w c tb sb s ev) {th:Nat} (hth:th < s.aN.length) {t:Th} (he:s.aN.getD th Th.zero=t) {i:Nat} (hti:t.dJ=(i:Int)) (hi:i < s.aX.length):Calls Tryd.prog 80 #[.pointer (some ⟨c,0,none⟩),.pointer (some ⟨tb,th*13,none⟩)] w
  fun e w'=>e=.returned (.bool (decide (s.own t.dJ=-1∧s.jD t.dJ=t.v)))∧∃ n,w'=w.drewN n:=by
 have c4:=h.cells.2.2.2.2
 have s1:=(h.si hi).2
 have t4:=(h.t hth he).2.2.2.2.1
 have t5:=(h.t hth he).2.2.2.2.2.1
 rw[hti]at t4⊢
 have g:(0:Int)≤(i:Int):=by omega
 have g2:(i:Int) < (s.aX.length:Int):=by omega
 clear hti he
 by_cases hf:s.own i=-1
 ·have k1:(s.own (i:Int)== -1)=true:=by rw[beq_iff_eq];exact hf
  have k2:(s.own (i:Int) !=-1)=false:=by unfold bne;rw[k1];rfl
  have HR:Hid (decide (s.own (i:Int)=-1∧s.jD (i:Int)=t.v)=(s.jD (i:Int)==t.v)):=hid (by simp[hf];rfl)
  have HF:Hid (∀ n,Calls Tryd.prog 79 #[.pointer (some ⟨c,0,none⟩),.int .i64 (i:Int)] (w.drewN n) fun e w'=>e=.returned (.bool true)∧w'=w.drewN n):=
   hid fun n=>(nX (s:=s) (ev:=ev) (h.drewN n) i hi).mono fun e w' ⟨h1,h2⟩=>⟨by rw[h1,k1],h2.symm⟩
  clear hf h k1 k2
  go_enter Tryd.func80,Tryd.ntmps80
  go_wp2_with fail
  go_quiet ((go_at_call 79;exact Calls.quiet_of_same (HF.out _)))
  go_wp2_with fail
  go_ret
  exact⟨by rw[HR.out];rfl,_,rfl⟩
 ·have k1:(s.own (i:Int)== -1)=false:=by rw[beq_eq_false_iff_ne];exact hf
  have k2:(s.own (i:Int) !=-1)=true:=by unfold bne;rw[k1];rfl
  have HR:Hid (decide (s.own (i:Int)=-1∧s.jD (i:Int)=t.v)=false):=hid (by simp[hf])
  have HF:Hid (∀ n,Calls Tryd.prog 79 #[.pointer (some ⟨c,0,none⟩),.int .i64 (i:Int)] (w.drewN n) fun e w'=>e=.returned (.bool false)∧w'=w.drewN n):=
   hid fun n=>(nX (s:=s) (ev:=ev) (h.drewN n) i hi).mono fun e w' ⟨h1,h2⟩=>⟨by rw[h1,k1],h2.symm⟩
  clear hf h k1 k2
  go_enter Tryd.func80,Tryd.ntmps80
  go_wp2_with fail
  go_quiet ((go_at_call 79;exact Calls.quiet_of_same (HF.out _)))
  go_wp2_with fail
  go_ret
  exact⟨by rw[HR.out];rfl,_,rfl⟩
end
end Go.Proofs.YtcddlnmcjmhbcaaDoor
-- short
