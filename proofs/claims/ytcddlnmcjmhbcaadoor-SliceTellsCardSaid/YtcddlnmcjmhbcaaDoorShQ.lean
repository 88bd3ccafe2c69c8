/-
  Two events compared by ==.
-/
import Derived.Test.YtcddlnmcjmhbcaaDoorShE
namespace Go.Proofs.YtcddlnmcjmhbcaaDoor
set_option linter.unusedVariables false
open Go Go.RowKit
def oL (a b:Ev):Bool:=decide (a.kind=b.kind∧a.th=b.th∧a.tx=b.tx∧a.at_=b.at_∧a.v=b.v∧a.x=b.x∧a.why=b.why)
theorem Kz (a b:Ev):oL a b=(a.kind==b.kind&&(a.th==b.th&&(a.tx==b.tx&&(a.at_==b.at_&&(a.v==b.v&&(a.x==b.x&&a.why==b.why)))))):=by
 unfold oL
 simp only[Bool.decide_and]
 rfl
theorem tZ (a b:Ev) (w:World):(Op.equal 49 (.agg #[.int .u8 a.kind,.int .i64 a.th,.int .i64 a.tx,.int .i64 a.at_,.int .i64 a.v,.int .i64 a.x,.int .u8 a.why])
  (.agg #[.int .u8 b.kind,.int .i64 b.th,.int .i64 b.tx,.int .i64 b.at_,.int .i64 b.v,.int .i64 b.x,.int .u8 b.why])).run Tryd.prog w=.ok (oL a b) w:=by
 rw[Kz]
 unfold Op.equal Op.maxDepth
 have hu:=Tryd.underlying49
 rw[run_equalIn_struct w 9999 49 _ _ (by unfold Program.fieldsOf;rw[hu]) (by kernel_rfl)]
 unfold Program.fieldsOf
 rw[hu]
 generalize a.kind=a0;generalize a.th=a1;generalize a.tx=a2;generalize a.at_=a3;generalize a.v=a4;generalize a.x=a5;generalize a.why=a6
 generalize b.kind=b0;generalize b.th=b1;generalize b.tx=b2;generalize b.at_=b3;generalize b.v=b4;generalize b.x=b5;generalize b.why=b6
 clear hu
 simp only[Op.eqFields]
 by_cases h0:a0=b0
 case neg=>go_simp
 by_cases h1:a1=b1
 case neg=>go_simp
 by_cases h2:a2=b2
 case neg=>go_simp
 by_cases h3:a3=b3
 case neg=>go_simp
 by_cases h4:a4=b4
 case neg=>go_simp
 by_cases h5:a5=b5
 case neg=>go_simp
 by_cases h6:a6=b6
 case neg=>go_simp
 go_simp
end Go.Proofs.YtcddlnmcjmhbcaaDoor
-- short
