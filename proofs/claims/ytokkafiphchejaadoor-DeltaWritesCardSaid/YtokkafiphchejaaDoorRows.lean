/-
  NARROWER THAN 'FOR EVERY INPUT', by the rows' own cells (each row's printed sentence says how): DeltaSmall: laid · DeltaWrites: laid · DeltaReads: laid · DeltaAnew: laid · DeltaNames: laid · DeltaBack: laid.
  DERIVED. THE GIVEN ROWS OF THIS SEAT. 6 by the template 'for every input the law returns true; each argument reads behind the call as it read before'; 0 by the template 'total and deterministic' (their statements: YtokkafiphchejaaDoorTotals.lean).
  GIVEN WITH THE SEED: the statements are not yours to turn. If you find one false, say at which input.
  Laid BY PROGRAM, IN A SANDBOX (cutbox-rows.mjs): the forced cells as the released guide's own fill.sh prints them over the translation bef1c1e9b1f40b86… (all of the seat's roots in one cut). By AI agents, Wed Nov 11 2026. No macro, syntax, notation, axiom, sorry.
-/
import Derived.Test.YtokkafiphchejaaDoorChecked
import GoSem.Claim
import GoSem.ClaimJoined
import GoSem.ClaimMapViews
import Derived.JoinedTies
import Derived.KernelRfl
namespace Go.Proofs.YtokkafiphchejaaDoor
/- THE CELL 'sum', in the pinned program and in every row, IS THE sha256 OF THE DUMP (.gsa) THAT YtokkafiphchejaaDoorProg.lean LOADS. Nothing in Lean hashes anything: it is a label: what it is worth is what the hold of that sum in a sandbox is worth. -/
noncomputable def Tryd.pinned : Pinned := { name := "ytokkafiphchejaadoor", sum := "bef1c1e9b1f40b863a1356c41fa56955d6e60c0451aafbe8983c0c692eae4fa8", checked := Tryd.checked }
namespace Rows
def none {H : Type} : Left H := { results := [], args := [] }

/- WHAT THE LISTED PACKAGE-LEVEL VARIABLES READ AS WHEN THE CALL BEGINS. Each datum BY PROGRAM (the guide's laid-datum.mjs) off the statement by which the dump's own 'gosem.cut.vars' lays the variable. In a bare row this is a premise. The card (YtokkafiphchejaaDoorCards.lean) ties it to the program's text. -/
def laid_seesaw_event_kinds {H : Type} : DataW H := .iface "func table" (.agg [.agg [.lit (.string []), .nil], .agg [.lit (.string [98, 101, 103, 105, 110]), .slice [.iface "func" (.lit (.string [40, 42, 115, 101, 101, 115, 97, 119, 47, 101, 118, 101, 110, 116, 46, 119, 104, 111, 108, 101, 41, 46, 116, 120])), .iface "func" (.lit (.string [40, 42, 115, 101, 101, 115, 97, 119, 47, 101, 118, 101, 110, 116, 46, 119, 104, 111, 108, 101, 41, 46, 118]))] []], .agg [.lit (.string [108, 111, 111, 107]), .slice [.iface "func" (.lit (.string [40, 42, 115, 101, 101, 115, 97, 119, 47, 101, 118, 101, 110, 116, 46, 119, 104, 111, 108, 101, 41, 46, 97, 116])), .iface "func" (.lit (.string [40, 42, 115, 101, 101, 115, 97, 119, 47, 101, 118, 101, 110, 116, 46, 119, 104, 111, 108, 101, 41, 46, 118]))] []], .agg [.lit (.string [108, 111, 97, 100]), .slice [.iface "func" (.lit (.string [40, 42, 115, 101, 101, 115, 97, 119, 47, 101, 118, 101, 110, 116, 46, 119, 104, 111, 108, 101, 41, 46, 97, 116])), .iface "func" (.lit (.string [40, 42, 115, 101, 101, 115, 97, 119, 47, 101, 118, 101, 110, 116, 46, 119, 104, 111, 108, 101, 41, 46, 120]))] []], .agg [.lit (.string [108, 111, 99, 107]), .slice [.iface "func" (.lit (.string [40, 42, 115, 101, 101, 115, 97, 119, 47, 101, 118, 101, 110, 116, 46, 119, 104, 111, 108, 101, 41, 46, 97, 116]))] []], .agg [.lit (.string [98, 117, 109, 112]), .slice [.iface "func" (.lit (.string [40, 42, 115, 101, 101, 115, 97, 119, 47, 101, 118, 101, 110, 116, 46, 119, 104, 111, 108, 101, 41, 46, 118]))] []], .agg [.lit (.string [99, 104, 101, 99, 107]), .slice [.iface "func" (.lit (.string [40, 42, 115, 101, 101, 115, 97, 119, 47, 101, 118, 101, 110, 116, 46, 119, 104, 111, 108, 101, 41, 46, 97, 116]))] []], .agg [.lit (.string [99, 111, 109, 109, 105, 116]), .slice [.iface "func" (.lit (.string [40, 42, 115, 101, 101, 115, 97, 119, 47, 101, 118, 101, 110, 116, 46, 119, 104, 111, 108, 101, 41, 46, 118]))] []], .agg [.lit (.string [115, 116, 111, 114, 101]), .slice [.iface "func" (.lit (.string [40, 42, 115, 101, 101, 115, 97, 119, 47, 101, 118, 101, 110, 116, 46, 119, 104, 111, 108, 101, 41, 46, 97, 116])), .iface "func" (.lit (.string [40, 42, 115, 101, 101, 115, 97, 119, 47, 101, 118, 101, 110, 116, 46, 119, 104, 111, 108, 101, 41, 46, 120]))] []], .agg [.lit (.string [102, 114, 101, 101]), .slice [.iface "func" (.lit (.string [40, 42, 115, 101, 101, 115, 97, 119, 47, 101, 118, 101, 110, 116, 46, 119, 104, 111, 108, 101, 41, 46, 97, 116]))] []], .agg [.lit (.string [97, 98, 111, 114, 116]), .slice [.iface "func" (.lit (.string [40, 42, 115, 101, 101, 115, 97, 119, 47, 101, 118, 101, 110, 116, 46, 119, 104, 111, 108, 101, 41, 46, 119, 104, 121])), .iface "func" (.lit (.string [40, 42, 115, 101, 101, 115, 97, 119, 47, 101, 118, 101, 110, 116, 46, 119, 104, 111, 108, 101, 41, 46, 97, 116]))] []], .agg [.lit (.string [117, 110, 100, 111]), .slice [.iface "func" (.lit (.string [40, 42, 115, 101, 101, 115, 97, 119, 47, 101, 118, 101, 110, 116, 46, 119, 104, 111, 108, 101, 41, 46, 97, 116]))] []], .agg [.lit (.string [119, 97, 105, 116]), .nil], .agg [.lit (.string [119, 97, 107, 101]), .nil]])
def laid_seesaw_seesawref12_names {H : Type} : DataW H := .agg [.lit (.string []), .lit (.string [98, 101, 103, 105, 110]), .lit (.string [108, 111, 111, 107]), .lit (.string [108, 111, 97, 100]), .lit (.string [108, 111, 99, 107]), .lit (.string [98, 117, 109, 112]), .lit (.string [99, 104, 101, 99, 107]), .lit (.string [99, 111, 109, 109, 105, 116]), .lit (.string [115, 116, 111, 114, 101]), .lit (.string [102, 114, 101, 101]), .lit (.string [97, 98, 111, 114, 116]), .lit (.string [117, 110, 100, 111]), .lit (.string [119, 97, 105, 116]), .lit (.string [119, 97, 107, 101])]

/-- 'seesawlaw14.DeltaSmall': WHATEVER THE INPUT: true; the input reads as it did. -/
def deltaSmallSpec : ChangeSpec := { name := "deltaSmall", fn := fun _ => fun
  | [d1, d2, d3] => { results := [.lit (.bool true)], args := [d1, d2, d3] }
  | _ => none }
def deltaSmallRow : OpenClaim := { program := "ytokkafiphchejaadoor", sum := "bef1c1e9b1f40b863a1356c41fa56955d6e60c0451aafbe8983c0c692eae4fa8", func := "seesaw/seesawlaw14.DeltaSmall", spec := "deltaSmall", unfollowed := true, recurses := true, named := ["seesaw/event.kinds"], apart := false, laid := [("seesaw/event.kinds", laid_seesaw_event_kinds)] }
def DeltaSmallSaid : Prop := deltaSmallRow.holds Tryd.pinned (OpenSpec.ofChange deltaSmallSpec)

/-- ITS FALSE NEIGHBOUR: 'it returns false'. Refute it at one input. -/
def deltaSmallWrong : ChangeSpec := { name := "deltaSmall", fn := fun _ => fun
  | [d1, d2, d3] => { results := [.lit (.bool false)], args := [d1, d2, d3] }
  | _ => none }
def DeltaSmallWrongFalsely : Prop := deltaSmallRow.holds Tryd.pinned (OpenSpec.ofChange deltaSmallWrong)

/-- 'seesawlaw14.DeltaWrites': WHATEVER THE INPUT: true; the input reads as it did. -/
def deltaWritesSpec : ChangeSpec := { name := "deltaWrites", fn := fun _ => fun
  | [d1, d2, d3, d4, d5] => { results := [.lit (.bool true)], args := [d1, d2, d3, d4, d5] }
  | _ => none }
def deltaWritesRow : OpenClaim := { program := "ytokkafiphchejaadoor", sum := "bef1c1e9b1f40b863a1356c41fa56955d6e60c0451aafbe8983c0c692eae4fa8", func := "seesaw/seesawlaw14.DeltaWrites", spec := "deltaWrites", unfollowed := true, recurses := true, named := ["seesaw/event.kinds", "seesaw/seesawref12.names"], apart := false, laid := [("seesaw/seesawref12.names", laid_seesaw_seesawref12_names), ("seesaw/event.kinds", laid_seesaw_event_kinds)] }
def DeltaWritesSaid : Prop := deltaWritesRow.holds Tryd.pinned (OpenSpec.ofChange deltaWritesSpec)

/-- ITS FALSE NEIGHBOUR: 'it returns false'. Refute it at one input. -/
def deltaWritesWrong : ChangeSpec := { name := "deltaWrites", fn := fun _ => fun
  | [d1, d2, d3, d4, d5] => { results := [.lit (.bool false)], args := [d1, d2, d3, d4, d5] }
  | _ => none }
def DeltaWritesWrongFalsely : Prop := deltaWritesRow.holds Tryd.pinned (OpenSpec.ofChange deltaWritesWrong)

/-- 'seesawlaw14.DeltaReads': WHATEVER THE INPUT: true; the input reads as it did. -/
def deltaReadsSpec : ChangeSpec := { name := "deltaReads", fn := fun _ => fun
  | [d1, d2, d3, d4] => { results := [.lit (.bool true)], args := [d1, d2, d3, d4] }
  | _ => none }
def deltaReadsRow : OpenClaim := { program := "ytokkafiphchejaadoor", sum := "bef1c1e9b1f40b863a1356c41fa56955d6e60c0451aafbe8983c0c692eae4fa8", func := "seesaw/seesawlaw14.DeltaReads", spec := "deltaReads", unfollowed := true, recurses := true, named := ["seesaw/event.kinds"], apart := false, laid := [("seesaw/event.kinds", laid_seesaw_event_kinds)] }
def DeltaReadsSaid : Prop := deltaReadsRow.holds Tryd.pinned (OpenSpec.ofChange deltaReadsSpec)

/-- ITS FALSE NEIGHBOUR: 'it returns false'. Refute it at one input. -/
def deltaReadsWrong : ChangeSpec := { name := "deltaReads", fn := fun _ => fun
  | [d1, d2, d3, d4] => { results := [.lit (.bool false)], args := [d1, d2, d3, d4] }
  | _ => none }
def DeltaReadsWrongFalsely : Prop := deltaReadsRow.holds Tryd.pinned (OpenSpec.ofChange deltaReadsWrong)

/-- 'seesawlaw14.DeltaAnew': WHATEVER THE INPUT: true; the input reads as it did. -/
def deltaAnewSpec : ChangeSpec := { name := "deltaAnew", fn := fun _ => fun
  | [d1, d2, d3, d4] => { results := [.lit (.bool true)], args := [d1, d2, d3, d4] }
  | _ => none }
def deltaAnewRow : OpenClaim := { program := "ytokkafiphchejaadoor", sum := "bef1c1e9b1f40b863a1356c41fa56955d6e60c0451aafbe8983c0c692eae4fa8", func := "seesaw/seesawlaw14.DeltaAnew", spec := "deltaAnew", unfollowed := true, recurses := true, named := ["seesaw/event.kinds"], apart := false, laid := [("seesaw/event.kinds", laid_seesaw_event_kinds)] }
def DeltaAnewSaid : Prop := deltaAnewRow.holds Tryd.pinned (OpenSpec.ofChange deltaAnewSpec)

/-- ITS FALSE NEIGHBOUR: 'it returns false'. Refute it at one input. -/
def deltaAnewWrong : ChangeSpec := { name := "deltaAnew", fn := fun _ => fun
  | [d1, d2, d3, d4] => { results := [.lit (.bool false)], args := [d1, d2, d3, d4] }
  | _ => none }
def DeltaAnewWrongFalsely : Prop := deltaAnewRow.holds Tryd.pinned (OpenSpec.ofChange deltaAnewWrong)

/-- 'seesawlaw14.DeltaNames': WHATEVER THE INPUT: true; the input reads as it did. -/
def deltaNamesSpec : ChangeSpec := { name := "deltaNames", fn := fun _ => fun
  | [] => { results := [.lit (.bool true)], args := [] }
  | _ => none }
def deltaNamesRow : OpenClaim := { program := "ytokkafiphchejaadoor", sum := "bef1c1e9b1f40b863a1356c41fa56955d6e60c0451aafbe8983c0c692eae4fa8", func := "seesaw/seesawlaw14.DeltaNames", spec := "deltaNames", unfollowed := true, recurses := true, named := ["seesaw/event.kinds"], apart := false, laid := [("seesaw/event.kinds", laid_seesaw_event_kinds)] }
def DeltaNamesSaid : Prop := deltaNamesRow.holds Tryd.pinned (OpenSpec.ofChange deltaNamesSpec)

/-- ITS FALSE NEIGHBOUR: 'it returns false'. Refute it at one input. -/
def deltaNamesWrong : ChangeSpec := { name := "deltaNames", fn := fun _ => fun
  | [] => { results := [.lit (.bool false)], args := [] }
  | _ => none }
def DeltaNamesWrongFalsely : Prop := deltaNamesRow.holds Tryd.pinned (OpenSpec.ofChange deltaNamesWrong)

/-- 'seesawlaw14.DeltaBack': WHATEVER THE INPUT: true; the input reads as it did. -/
def deltaBackSpec : ChangeSpec := { name := "deltaBack", fn := fun _ => fun
  | [d1, d2, d3, d4, d5] => { results := [.lit (.bool true)], args := [d1, d2, d3, d4, d5] }
  | _ => none }
def deltaBackRow : OpenClaim := { program := "ytokkafiphchejaadoor", sum := "bef1c1e9b1f40b863a1356c41fa56955d6e60c0451aafbe8983c0c692eae4fa8", func := "seesaw/seesawlaw14.DeltaBack", spec := "deltaBack", unfollowed := true, recurses := true, named := ["seesaw/event.kinds"], apart := false, laid := [("seesaw/event.kinds", laid_seesaw_event_kinds)] }
def DeltaBackSaid : Prop := deltaBackRow.holds Tryd.pinned (OpenSpec.ofChange deltaBackSpec)

/-- ITS FALSE NEIGHBOUR: 'it returns false'. Refute it at one input. -/
def deltaBackWrong : ChangeSpec := { name := "deltaBack", fn := fun _ => fun
  | [d1, d2, d3, d4, d5] => { results := [.lit (.bool false)], args := [d1, d2, d3, d4, d5] }
  | _ => none }
def DeltaBackWrongFalsely : Prop := deltaBackRow.holds Tryd.pinned (OpenSpec.ofChange deltaBackWrong)

/- THE SECOND FORM. 'bulk': how many values and letters a reading holds, each counted each time it is reached (what is shared counts as often as it is met; a slice's spare places count too). A statement '..UptoSaid' is the law's where the arguments, and the package variables that the reading takes, are together of bulk at most 1048576: NARROWER than '..Said'. Prove '..Said' where nothing that the law and all that it calls make is longer than what came in: it says more and counts as full. Else prove '..UptoSaid'. A law counts once. -/
mutual
def uptoBulk {H : Type} : DataW H → Nat
  | .lit (.string bytes) => bytes.length + 1
  | .lit _ => 1
  | .nil => 1
  | .ptr d => uptoBulk d + 1
  | .slice elems spare => uptoBulkAll elems + uptoBulkAll spare + 1
  | .agg parts => uptoBulkAll parts + 1
  | .iface _ d => uptoBulk d + 1
  | .map entries => uptoBulkEntries entries + 1
  | .held _ => 1
def uptoBulkAll {H : Type} : List (DataW H) → Nat
  | [] => 0
  | d :: r => uptoBulk d + uptoBulkAll r
def uptoBulkEntries {H : Type} : List (Lit × DataW H) → Nat
  | [] => 0
  | x :: r => uptoBulkEntry x + uptoBulkEntries r
def uptoBulkEntry {H : Type} : Lit × DataW H → Nat
  | (.string bytes, d) => bytes.length + uptoBulk d + 1
  | (_, d) => uptoBulk d + 1
 end
def uptoSmall : (H : Type) → List (DataW H) → Bool := fun _ ds => decide (uptoBulkAll ds ≤ 1048576)
def OpenSpec.upto (s : _root_.Go.ChangeSpec) : _root_.Go.OpenSpec := { _root_.Go.OpenSpec.ofChange s with cond := some uptoSmall }

/-- 'seesawlaw14.DeltaSmall', WHERE WHAT IT READS IS OF BULK AT MOST 1048576: true; the input reads as it did. -/
def deltaSmallUptoRow : OpenClaim := { program := "ytokkafiphchejaadoor", sum := "bef1c1e9b1f40b863a1356c41fa56955d6e60c0451aafbe8983c0c692eae4fa8", func := "seesaw/seesawlaw14.DeltaSmall", spec := "deltaSmall", unfollowed := true, recurses := true, named := ["seesaw/event.kinds"], apart := false, laid := [("seesaw/event.kinds", laid_seesaw_event_kinds)], narrowed := true }
def DeltaSmallUptoSaid : Prop := deltaSmallUptoRow.holds Tryd.pinned (OpenSpec.upto deltaSmallSpec)

/-- 'seesawlaw14.DeltaWrites', WHERE WHAT IT READS IS OF BULK AT MOST 1048576: true; the input reads as it did. -/
def deltaWritesUptoRow : OpenClaim := { program := "ytokkafiphchejaadoor", sum := "bef1c1e9b1f40b863a1356c41fa56955d6e60c0451aafbe8983c0c692eae4fa8", func := "seesaw/seesawlaw14.DeltaWrites", spec := "deltaWrites", unfollowed := true, recurses := true, named := ["seesaw/event.kinds", "seesaw/seesawref12.names"], apart := false, laid := [("seesaw/seesawref12.names", laid_seesaw_seesawref12_names), ("seesaw/event.kinds", laid_seesaw_event_kinds)], narrowed := true }
def DeltaWritesUptoSaid : Prop := deltaWritesUptoRow.holds Tryd.pinned (OpenSpec.upto deltaWritesSpec)

/-- 'seesawlaw14.DeltaReads', WHERE WHAT IT READS IS OF BULK AT MOST 1048576: true; the input reads as it did. -/
def deltaReadsUptoRow : OpenClaim := { program := "ytokkafiphchejaadoor", sum := "bef1c1e9b1f40b863a1356c41fa56955d6e60c0451aafbe8983c0c692eae4fa8", func := "seesaw/seesawlaw14.DeltaReads", spec := "deltaReads", unfollowed := true, recurses := true, named := ["seesaw/event.kinds"], apart := false, laid := [("seesaw/event.kinds", laid_seesaw_event_kinds)], narrowed := true }
def DeltaReadsUptoSaid : Prop := deltaReadsUptoRow.holds Tryd.pinned (OpenSpec.upto deltaReadsSpec)

/-- 'seesawlaw14.DeltaAnew', WHERE WHAT IT READS IS OF BULK AT MOST 1048576: true; the input reads as it did. -/
def deltaAnewUptoRow : OpenClaim := { program := "ytokkafiphchejaadoor", sum := "bef1c1e9b1f40b863a1356c41fa56955d6e60c0451aafbe8983c0c692eae4fa8", func := "seesaw/seesawlaw14.DeltaAnew", spec := "deltaAnew", unfollowed := true, recurses := true, named := ["seesaw/event.kinds"], apart := false, laid := [("seesaw/event.kinds", laid_seesaw_event_kinds)], narrowed := true }
def DeltaAnewUptoSaid : Prop := deltaAnewUptoRow.holds Tryd.pinned (OpenSpec.upto deltaAnewSpec)

/-- 'seesawlaw14.DeltaNames', WHERE WHAT IT READS IS OF BULK AT MOST 1048576: true; the input reads as it did. -/
def deltaNamesUptoRow : OpenClaim := { program := "ytokkafiphchejaadoor", sum := "bef1c1e9b1f40b863a1356c41fa56955d6e60c0451aafbe8983c0c692eae4fa8", func := "seesaw/seesawlaw14.DeltaNames", spec := "deltaNames", unfollowed := true, recurses := true, named := ["seesaw/event.kinds"], apart := false, laid := [("seesaw/event.kinds", laid_seesaw_event_kinds)], narrowed := true }
def DeltaNamesUptoSaid : Prop := deltaNamesUptoRow.holds Tryd.pinned (OpenSpec.upto deltaNamesSpec)

/-- 'seesawlaw14.DeltaBack', WHERE WHAT IT READS IS OF BULK AT MOST 1048576: true; the input reads as it did. -/
def deltaBackUptoRow : OpenClaim := { program := "ytokkafiphchejaadoor", sum := "bef1c1e9b1f40b863a1356c41fa56955d6e60c0451aafbe8983c0c692eae4fa8", func := "seesaw/seesawlaw14.DeltaBack", spec := "deltaBack", unfollowed := true, recurses := true, named := ["seesaw/event.kinds"], apart := false, laid := [("seesaw/event.kinds", laid_seesaw_event_kinds)], narrowed := true }
def DeltaBackUptoSaid : Prop := deltaBackUptoRow.holds Tryd.pinned (OpenSpec.upto deltaBackSpec)

end Rows
end Go.Proofs.YtokkafiphchejaaDoor
