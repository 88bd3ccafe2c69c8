/-
  No cell of these rows narrows 'for every input' (looked for: loops, veiled, ifaces, maps, wideKeys, modest, calm, conditions, laid).
  DERIVED. THE GIVEN ROWS OF THIS SEAT. 2 by the template 'for every input the law returns true; each argument reads behind the call as it read before'; 0 by the template 'total and deterministic' (their statements: YtcdgfnocjnampaaTotals.lean).
  GIVEN WITH THE SEED: the statements are not yours to turn. If you find one false, say at which input.
  Laid BY PROGRAM, IN A SANDBOX (cutbox-rows.mjs): the forced cells as the released guide's own fill.sh prints them over the translation 4fa0762c46e6c08f… (all of the seat's roots in one cut). By AI agents, Wed Nov 11 2026. No macro, syntax, notation, axiom, sorry.
-/
import Derived.Test.YtcdgfnocjnampaaChecked
import GoSem.Claim
import GoSem.ClaimJoined
import GoSem.ClaimMapViews
import Derived.JoinedTies
import Derived.KernelRfl
namespace Go.Proofs.Ytcdgfnocjnampaa
/- THE CELL 'sum', in the pinned program and in every row, IS THE sha256 OF THE DUMP (.gsa) THAT YtcdgfnocjnampaaProg.lean LOADS. Nothing in Lean hashes anything: it is a label: what it is worth is what the hold of that sum in a sandbox is worth. -/
noncomputable def Try.pinned : Pinned := { name := "ytcdgfnocjnampaa", sum := "4fa0762c46e6c08f93984a2e7f634d90832947018884254333ab7b7d06e389ff", checked := Try.checked }
namespace Rows
def none {H : Type} : Left H := { results := [], args := [] }

/-- 'seesawlaw29.SliceClosed': WHATEVER THE INPUT: true; the input reads as it did. -/
def sliceClosedSpec : ChangeSpec := { name := "sliceClosed", fn := fun _ => fun
  | [d1, d2] => { results := [.lit (.bool true)], args := [d1, d2] }
  | _ => none }
def sliceClosedRow : OpenClaim := { program := "ytcdgfnocjnampaa", sum := "4fa0762c46e6c08f93984a2e7f634d90832947018884254333ab7b7d06e389ff", func := "seesaw/seesawlaw29.SliceClosed", spec := "sliceClosed", inPlace := ["slices.overlaps[int]"], unfollowed := true, recurses := true, apart := false }
def SliceClosedSaid : Prop := sliceClosedRow.holds Try.pinned (OpenSpec.ofChange sliceClosedSpec)

/-- ITS FALSE NEIGHBOUR: 'it returns false'. Refute it at one input. -/
def sliceClosedWrong : ChangeSpec := { name := "sliceClosed", fn := fun _ => fun
  | [d1, d2] => { results := [.lit (.bool false)], args := [d1, d2] }
  | _ => none }
def SliceClosedWrongFalsely : Prop := sliceClosedRow.holds Try.pinned (OpenSpec.ofChange sliceClosedWrong)

/-- 'seesawlaw29.SliceBoth': WHATEVER THE INPUT: true; the input reads as it did. -/
def sliceBothSpec : ChangeSpec := { name := "sliceBoth", fn := fun _ => fun
  | [d1, d2, d3] => { results := [.lit (.bool true)], args := [d1, d2, d3] }
  | _ => none }
def sliceBothRow : OpenClaim := { program := "ytcdgfnocjnampaa", sum := "4fa0762c46e6c08f93984a2e7f634d90832947018884254333ab7b7d06e389ff", func := "seesaw/seesawlaw29.SliceBoth", spec := "sliceBoth", inPlace := ["slices.overlaps[int]"], unfollowed := true, recurses := true, apart := false }
def SliceBothSaid : Prop := sliceBothRow.holds Try.pinned (OpenSpec.ofChange sliceBothSpec)

/-- ITS FALSE NEIGHBOUR: 'it returns false'. Refute it at one input. -/
def sliceBothWrong : ChangeSpec := { name := "sliceBoth", fn := fun _ => fun
  | [d1, d2, d3] => { results := [.lit (.bool false)], args := [d1, d2, d3] }
  | _ => none }
def SliceBothWrongFalsely : Prop := sliceBothRow.holds Try.pinned (OpenSpec.ofChange sliceBothWrong)

/- THE SECOND FORM. 'bulk': how many values and letters a reading holds, each counted each time it is reached (what is shared counts as often as it is met; a slice's spare places count too). A statement '..UptoSaid' is the law's where the arguments, and the package variables that the reading takes, are together of bulk at most 1048576: NARROWER than '..Said'. Prove '..Said' where nothing that the law and all that it calls make is longer than what came in: it says more and counts as full. Else prove '..UptoSaid'. A law counts once. -/
mutual
def uptoBulk {H : Type} : DataW H → Nat
  | .lit (.string bytes) => bytes.length + 1
  | .lit _ => 1
  | .nil => 1
  | .ptr d => uptoBulk d + 1
  | .slice elems spare => uptoBulkAll elems + uptoBulkAll spare + 1
  | .agg parts => uptoBulkAll parts + 1
  | .iface _ d => uptoBulk d + 1
  | .map entries => uptoBulkEntries entries + 1
  | .held _ => 1
def uptoBulkAll {H : Type} : List (DataW H) → Nat
  | [] => 0
  | d :: r => uptoBulk d + uptoBulkAll r
def uptoBulkEntries {H : Type} : List (Lit × DataW H) → Nat
  | [] => 0
  | x :: r => uptoBulkEntry x + uptoBulkEntries r
def uptoBulkEntry {H : Type} : Lit × DataW H → Nat
  | (.string bytes, d) => bytes.length + uptoBulk d + 1
  | (_, d) => uptoBulk d + 1
 end
def uptoSmall : (H : Type) → List (DataW H) → Bool := fun _ ds => decide (uptoBulkAll ds ≤ 1048576)
def OpenSpec.upto (s : _root_.Go.ChangeSpec) : _root_.Go.OpenSpec := { _root_.Go.OpenSpec.ofChange s with cond := some uptoSmall }

/-- 'seesawlaw29.SliceClosed', WHERE WHAT IT READS IS OF BULK AT MOST 1048576: true; the input reads as it did. -/
def sliceClosedUptoRow : OpenClaim := { program := "ytcdgfnocjnampaa", sum := "4fa0762c46e6c08f93984a2e7f634d90832947018884254333ab7b7d06e389ff", func := "seesaw/seesawlaw29.SliceClosed", spec := "sliceClosed", inPlace := ["slices.overlaps[int]"], unfollowed := true, recurses := true, apart := false, narrowed := true }
def SliceClosedUptoSaid : Prop := sliceClosedUptoRow.holds Try.pinned (OpenSpec.upto sliceClosedSpec)

/-- 'seesawlaw29.SliceBoth', WHERE WHAT IT READS IS OF BULK AT MOST 1048576: true; the input reads as it did. -/
def sliceBothUptoRow : OpenClaim := { program := "ytcdgfnocjnampaa", sum := "4fa0762c46e6c08f93984a2e7f634d90832947018884254333ab7b7d06e389ff", func := "seesaw/seesawlaw29.SliceBoth", spec := "sliceBoth", inPlace := ["slices.overlaps[int]"], unfollowed := true, recurses := true, apart := false, narrowed := true }
def SliceBothUptoSaid : Prop := sliceBothUptoRow.holds Try.pinned (OpenSpec.upto sliceBothSpec)

end Rows
end Go.Proofs.Ytcdgfnocjnampaa
