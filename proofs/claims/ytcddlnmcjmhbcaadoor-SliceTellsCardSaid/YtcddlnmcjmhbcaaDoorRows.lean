/-
  NARROWER THAN 'FOR EVERY INPUT', by the rows' own cells (each row's printed sentence says how): ShapeChecks: laid · HistoryTells: laid · SliceTells: laid.
  DERIVED. THE GIVEN ROWS OF THIS SEAT. 3 by the template 'for every input the law returns true; each argument reads behind the call as it read before'; 0 by the template 'total and deterministic' (their statements: YtcddlnmcjmhbcaaDoorTotals.lean).
  GIVEN WITH THE SEED: the statements are not yours to turn. If you find one false, say at which input.
  Laid BY PROGRAM, IN A SANDBOX (cutbox-rows.mjs): the forced cells as the released guide's own fill.sh prints them over the translation 355cf3f90f1249b9… (all of the seat's roots in one cut). By AI agents, Wed Nov 11 2026. No macro, syntax, notation, axiom, sorry.
-/
import Derived.Test.YtcddlnmcjmhbcaaDoorChecked
import GoSem.Claim
import GoSem.ClaimJoined
import GoSem.ClaimMapViews
import Derived.JoinedTies
import Derived.KernelRfl
namespace Go.Proofs.YtcddlnmcjmhbcaaDoor
/- THE CELL 'sum', in the pinned program and in every row, IS THE sha256 OF THE DUMP (.gsa) THAT YtcddlnmcjmhbcaaDoorProg.lean LOADS. Nothing in Lean hashes anything: it is a label: what it is worth is what the hold of that sum in a sandbox is worth. -/
noncomputable def Tryd.pinned : Pinned := { name := "ytcddlnmcjmhbcaadoor", sum := "355cf3f90f1249b99bc720676055f400b612dba1529bb022c48a81fd24ccecf9", checked := Tryd.checked }
namespace Rows
def none {H : Type} : Left H := { results := [], args := [] }

/- WHAT THE LISTED PACKAGE-LEVEL VARIABLES READ AS WHEN THE CALL BEGINS. Each datum BY PROGRAM (the guide's laid-datum.mjs) off the statement by which the dump's own 'gosem.cut.vars' lays the variable. In a bare row this is a premise. The card (YtcddlnmcjmhbcaaDoorCards.lean) ties it to the program's text. -/
def laid_math_bits_deBruijn32tab {H : Type} : DataW H := .agg [.lit (.int .u8 0), .lit (.int .u8 1), .lit (.int .u8 28), .lit (.int .u8 2), .lit (.int .u8 29), .lit (.int .u8 14), .lit (.int .u8 24), .lit (.int .u8 3), .lit (.int .u8 30), .lit (.int .u8 22), .lit (.int .u8 20), .lit (.int .u8 15), .lit (.int .u8 25), .lit (.int .u8 17), .lit (.int .u8 4), .lit (.int .u8 8), .lit (.int .u8 31), .lit (.int .u8 27), .lit (.int .u8 13), .lit (.int .u8 23), .lit (.int .u8 21), .lit (.int .u8 19), .lit (.int .u8 16), .lit (.int .u8 7), .lit (.int .u8 26), .lit (.int .u8 12), .lit (.int .u8 18), .lit (.int .u8 6), .lit (.int .u8 11), .lit (.int .u8 5), .lit (.int .u8 10), .lit (.int .u8 9)]
def laid_seesaw_seesawref12_names {H : Type} : DataW H := .agg [.lit (.string []), .lit (.string [98, 101, 103, 105, 110]), .lit (.string [108, 111, 111, 107]), .lit (.string [108, 111, 97, 100]), .lit (.string [108, 111, 99, 107]), .lit (.string [98, 117, 109, 112]), .lit (.string [99, 104, 101, 99, 107]), .lit (.string [99, 111, 109, 109, 105, 116]), .lit (.string [115, 116, 111, 114, 101]), .lit (.string [102, 114, 101, 101]), .lit (.string [97, 98, 111, 114, 116]), .lit (.string [117, 110, 100, 111]), .lit (.string [119, 97, 105, 116]), .lit (.string [119, 97, 107, 101])]
def laid_seesaw_event_kinds {H : Type} : DataW H := .iface "func table" (.agg [.agg [.lit (.string []), .nil], .agg [.lit (.string [98, 101, 103, 105, 110]), .slice [.iface "func" (.lit (.string [40, 42, 115, 101, 101, 115, 97, 119, 47, 101, 118, 101, 110, 116, 46, 119, 104, 111, 108, 101, 41, 46, 116, 120])), .iface "func" (.lit (.string [40, 42, 115, 101, 101, 115, 97, 119, 47, 101, 118, 101, 110, 116, 46, 119, 104, 111, 108, 101, 41, 46, 118]))] []], .agg [.lit (.string [108, 111, 111, 107]), .slice [.iface "func" (.lit (.string [40, 42, 115, 101, 101, 115, 97, 119, 47, 101, 118, 101, 110, 116, 46, 119, 104, 111, 108, 101, 41, 46, 97, 116])), .iface "func" (.lit (.string [40, 42, 115, 101, 101, 115, 97, 119, 47, 101, 118, 101, 110, 116, 46, 119, 104, 111, 108, 101, 41, 46, 118]))] []], .agg [.lit (.string [108, 111, 97, 100]), .slice [.iface "func" (.lit (.string [40, 42, 115, 101, 101, 115, 97, 119, 47, 101, 118, 101, 110, 116, 46, 119, 104, 111, 108, 101, 41, 46, 97, 116])), .iface "func" (.lit (.string [40, 42, 115, 101, 101, 115, 97, 119, 47, 101, 118, 101, 110, 116, 46, 119, 104, 111, 108, 101, 41, 46, 120]))] []], .agg [.lit (.string [108, 111, 99, 107]), .slice [.iface "func" (.lit (.string [40, 42, 115, 101, 101, 115, 97, 119, 47, 101, 118, 101, 110, 116, 46, 119, 104, 111, 108, 101, 41, 46, 97, 116]))] []], .agg [.lit (.string [98, 117, 109, 112]), .slice [.iface "func" (.lit (.string [40, 42, 115, 101, 101, 115, 97, 119, 47, 101, 118, 101, 110, 116, 46, 119, 104, 111, 108, 101, 41, 46, 118]))] []], .agg [.lit (.string [99, 104, 101, 99, 107]), .slice [.iface "func" (.lit (.string [40, 42, 115, 101, 101, 115, 97, 119, 47, 101, 118, 101, 110, 116, 46, 119, 104, 111, 108, 101, 41, 46, 97, 116]))] []], .agg [.lit (.string [99, 111, 109, 109, 105, 116]), .slice [.iface "func" (.lit (.string [40, 42, 115, 101, 101, 115, 97, 119, 47, 101, 118, 101, 110, 116, 46, 119, 104, 111, 108, 101, 41, 46, 118]))] []], .agg [.lit (.string [115, 116, 111, 114, 101]), .slice [.iface "func" (.lit (.string [40, 42, 115, 101, 101, 115, 97, 119, 47, 101, 118, 101, 110, 116, 46, 119, 104, 111, 108, 101, 41, 46, 97, 116])), .iface "func" (.lit (.string [40, 42, 115, 101, 101, 115, 97, 119, 47, 101, 118, 101, 110, 116, 46, 119, 104, 111, 108, 101, 41, 46, 120]))] []], .agg [.lit (.string [102, 114, 101, 101]), .slice [.iface "func" (.lit (.string [40, 42, 115, 101, 101, 115, 97, 119, 47, 101, 118, 101, 110, 116, 46, 119, 104, 111, 108, 101, 41, 46, 97, 116]))] []], .agg [.lit (.string [97, 98, 111, 114, 116]), .slice [.iface "func" (.lit (.string [40, 42, 115, 101, 101, 115, 97, 119, 47, 101, 118, 101, 110, 116, 46, 119, 104, 111, 108, 101, 41, 46, 119, 104, 121])), .iface "func" (.lit (.string [40, 42, 115, 101, 101, 115, 97, 119, 47, 101, 118, 101, 110, 116, 46, 119, 104, 111, 108, 101, 41, 46, 97, 116]))] []], .agg [.lit (.string [117, 110, 100, 111]), .slice [.iface "func" (.lit (.string [40, 42, 115, 101, 101, 115, 97, 119, 47, 101, 118, 101, 110, 116, 46, 119, 104, 111, 108, 101, 41, 46, 97, 116]))] []], .agg [.lit (.string [119, 97, 105, 116]), .nil], .agg [.lit (.string [119, 97, 107, 101]), .nil]])

/-- 'seesawlaw13.ShapeChecks': WHATEVER THE INPUT: true; the input reads as it did. -/
def shapeChecksSpec : ChangeSpec := { name := "shapeChecks", fn := fun _ => fun
  | [d] => { results := [.lit (.bool true)], args := [d] }
  | _ => none }
def shapeChecksRow : OpenClaim := { program := "ytcddlnmcjmhbcaadoor", sum := "355cf3f90f1249b99bc720676055f400b612dba1529bb022c48a81fd24ccecf9", func := "seesaw/seesawlaw13.ShapeChecks", spec := "shapeChecks", unfollowed := true, recurses := true, named := ["seesaw/event.kinds", "math/bits.deBruijn32tab", "seesaw/seesawref12.names"], apart := false, laid := [("math/bits.deBruijn32tab", laid_math_bits_deBruijn32tab), ("seesaw/seesawref12.names", laid_seesaw_seesawref12_names), ("seesaw/event.kinds", laid_seesaw_event_kinds)] }
def ShapeChecksSaid : Prop := shapeChecksRow.holds Tryd.pinned (OpenSpec.ofChange shapeChecksSpec)

/-- ITS FALSE NEIGHBOUR: 'it returns false'. Refute it at one input. -/
def shapeChecksWrong : ChangeSpec := { name := "shapeChecks", fn := fun _ => fun
  | [d] => { results := [.lit (.bool false)], args := [d] }
  | _ => none }
def ShapeChecksWrongFalsely : Prop := shapeChecksRow.holds Tryd.pinned (OpenSpec.ofChange shapeChecksWrong)

/-- 'seesawlaw25.HistoryTells': WHATEVER THE INPUT: true; the input reads as it did. -/
def historyTellsSpec : ChangeSpec := { name := "historyTells", fn := fun _ => fun
  | [d1, d2] => { results := [.lit (.bool true)], args := [d1, d2] }
  | _ => none }
def historyTellsRow : OpenClaim := { program := "ytcddlnmcjmhbcaadoor", sum := "355cf3f90f1249b99bc720676055f400b612dba1529bb022c48a81fd24ccecf9", func := "seesaw/seesawlaw25.HistoryTells", spec := "historyTells", unfollowed := true, recurses := true, named := ["seesaw/event.kinds", "math/bits.deBruijn32tab", "seesaw/seesawref12.names"], apart := false, laid := [("math/bits.deBruijn32tab", laid_math_bits_deBruijn32tab), ("seesaw/seesawref12.names", laid_seesaw_seesawref12_names), ("seesaw/event.kinds", laid_seesaw_event_kinds)] }
def HistoryTellsSaid : Prop := historyTellsRow.holds Tryd.pinned (OpenSpec.ofChange historyTellsSpec)

/-- ITS FALSE NEIGHBOUR: 'it returns false'. Refute it at one input. -/
def historyTellsWrong : ChangeSpec := { name := "historyTells", fn := fun _ => fun
  | [d1, d2] => { results := [.lit (.bool false)], args := [d1, d2] }
  | _ => none }
def HistoryTellsWrongFalsely : Prop := historyTellsRow.holds Tryd.pinned (OpenSpec.ofChange historyTellsWrong)

/-- 'seesawlaw29.SliceTells': WHATEVER THE INPUT: true; the input reads as it did. -/
def sliceTellsSpec : ChangeSpec := { name := "sliceTells", fn := fun _ => fun
  | [d1, d2, d3] => { results := [.lit (.bool true)], args := [d1, d2, d3] }
  | _ => none }
def sliceTellsRow : OpenClaim := { program := "ytcddlnmcjmhbcaadoor", sum := "355cf3f90f1249b99bc720676055f400b612dba1529bb022c48a81fd24ccecf9", func := "seesaw/seesawlaw29.SliceTells", spec := "sliceTells", inPlace := ["slices.overlaps[int]"], unfollowed := true, recurses := true, named := ["seesaw/event.kinds", "math/bits.deBruijn32tab", "seesaw/seesawref12.names"], apart := false, laid := [("math/bits.deBruijn32tab", laid_math_bits_deBruijn32tab), ("seesaw/seesawref12.names", laid_seesaw_seesawref12_names), ("seesaw/event.kinds", laid_seesaw_event_kinds)] }
def SliceTellsSaid : Prop := sliceTellsRow.holds Tryd.pinned (OpenSpec.ofChange sliceTellsSpec)

/-- ITS FALSE NEIGHBOUR: 'it returns false'. Refute it at one input. -/
def sliceTellsWrong : ChangeSpec := { name := "sliceTells", fn := fun _ => fun
  | [d1, d2, d3] => { results := [.lit (.bool false)], args := [d1, d2, d3] }
  | _ => none }
def SliceTellsWrongFalsely : Prop := sliceTellsRow.holds Tryd.pinned (OpenSpec.ofChange sliceTellsWrong)

/- THE SECOND FORM. 'bulk': how many values and letters a reading holds, each counted each time it is reached (what is shared counts as often as it is met; a slice's spare places count too). A statement '..UptoSaid' is the law's where the arguments, and the package variables that the reading takes, are together of bulk at most 1048576: NARROWER than '..Said'. Prove '..Said' where nothing that the law and all that it calls make is longer than what came in: it says more and counts as full. Else prove '..UptoSaid'. A law counts once. -/
mutual
def uptoBulk {H : Type} : DataW H → Nat
  | .lit (.string bytes) => bytes.length + 1
  | .lit _ => 1
  | .nil => 1
  | .ptr d => uptoBulk d + 1
  | .slice elems spare => uptoBulkAll elems + uptoBulkAll spare + 1
  | .agg parts => uptoBulkAll parts + 1
  | .iface _ d => uptoBulk d + 1
  | .map entries => uptoBulkEntries entries + 1
  | .held _ => 1
def uptoBulkAll {H : Type} : List (DataW H) → Nat
  | [] => 0
  | d :: r => uptoBulk d + uptoBulkAll r
def uptoBulkEntries {H : Type} : List (Lit × DataW H) → Nat
  | [] => 0
  | x :: r => uptoBulkEntry x + uptoBulkEntries r
def uptoBulkEntry {H : Type} : Lit × DataW H → Nat
  | (.string bytes, d) => bytes.length + uptoBulk d + 1
  | (_, d) => uptoBulk d + 1
 end
def uptoSmall : (H : Type) → List (DataW H) → Bool := fun _ ds => decide (uptoBulkAll ds ≤ 1048576)
def OpenSpec.upto (s : _root_.Go.ChangeSpec) : _root_.Go.OpenSpec := { _root_.Go.OpenSpec.ofChange s with cond := some uptoSmall }

/-- 'seesawlaw13.ShapeChecks', WHERE WHAT IT READS IS OF BULK AT MOST 1048576: true; the input reads as it did. -/
def shapeChecksUptoRow : OpenClaim := { program := "ytcddlnmcjmhbcaadoor", sum := "355cf3f90f1249b99bc720676055f400b612dba1529bb022c48a81fd24ccecf9", func := "seesaw/seesawlaw13.ShapeChecks", spec := "shapeChecks", unfollowed := true, recurses := true, named := ["seesaw/event.kinds", "math/bits.deBruijn32tab", "seesaw/seesawref12.names"], apart := false, laid := [("math/bits.deBruijn32tab", laid_math_bits_deBruijn32tab), ("seesaw/seesawref12.names", laid_seesaw_seesawref12_names), ("seesaw/event.kinds", laid_seesaw_event_kinds)], narrowed := true }
def ShapeChecksUptoSaid : Prop := shapeChecksUptoRow.holds Tryd.pinned (OpenSpec.upto shapeChecksSpec)

/-- 'seesawlaw25.HistoryTells', WHERE WHAT IT READS IS OF BULK AT MOST 1048576: true; the input reads as it did. -/
def historyTellsUptoRow : OpenClaim := { program := "ytcddlnmcjmhbcaadoor", sum := "355cf3f90f1249b99bc720676055f400b612dba1529bb022c48a81fd24ccecf9", func := "seesaw/seesawlaw25.HistoryTells", spec := "historyTells", unfollowed := true, recurses := true, named := ["seesaw/event.kinds", "math/bits.deBruijn32tab", "seesaw/seesawref12.names"], apart := false, laid := [("math/bits.deBruijn32tab", laid_math_bits_deBruijn32tab), ("seesaw/seesawref12.names", laid_seesaw_seesawref12_names), ("seesaw/event.kinds", laid_seesaw_event_kinds)], narrowed := true }
def HistoryTellsUptoSaid : Prop := historyTellsUptoRow.holds Tryd.pinned (OpenSpec.upto historyTellsSpec)

/-- 'seesawlaw29.SliceTells', WHERE WHAT IT READS IS OF BULK AT MOST 1048576: true; the input reads as it did. -/
def sliceTellsUptoRow : OpenClaim := { program := "ytcddlnmcjmhbcaadoor", sum := "355cf3f90f1249b99bc720676055f400b612dba1529bb022c48a81fd24ccecf9", func := "seesaw/seesawlaw29.SliceTells", spec := "sliceTells", inPlace := ["slices.overlaps[int]"], unfollowed := true, recurses := true, named := ["seesaw/event.kinds", "math/bits.deBruijn32tab", "seesaw/seesawref12.names"], apart := false, laid := [("math/bits.deBruijn32tab", laid_math_bits_deBruijn32tab), ("seesaw/seesawref12.names", laid_seesaw_seesawref12_names), ("seesaw/event.kinds", laid_seesaw_event_kinds)], narrowed := true }
def SliceTellsUptoSaid : Prop := sliceTellsUptoRow.holds Tryd.pinned (OpenSpec.upto sliceTellsSpec)

end Rows
end Go.Proofs.YtcddlnmcjmhbcaaDoor
