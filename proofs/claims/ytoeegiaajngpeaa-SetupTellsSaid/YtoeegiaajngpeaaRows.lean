/-
  NARROWER THAN 'FOR EVERY INPUT', by the rows' own cells (each row's printed sentence says how): SetupLess: loops · SetupAlike: loops · SetupTells: loops.
  DERIVED. THE GIVEN ROWS OF THIS SEAT. 3 by the template 'for every input the law returns true; each argument reads behind the call as it read before'; 0 by the template 'total and deterministic' (their statements: YtoeegiaajngpeaaTotals.lean).
  GIVEN WITH THE SEED: the statements are not yours to turn. If you find one false, say at which input.
  Laid BY PROGRAM, IN A SANDBOX (cutbox-rows.mjs): the forced cells as the released guide's own fill.sh prints them over the translation 62060a053deba1df… (all of the seat's roots in one cut). By AI agents, Wed Nov 11 2026. No macro, syntax, notation, axiom, sorry.
-/
import Derived.Test.YtoeegiaajngpeaaChecked
import GoSem.Claim
import GoSem.ClaimJoined
import GoSem.ClaimMapViews
import Derived.JoinedTies
import Derived.KernelRfl
namespace Go.Proofs.Ytoeegiaajngpeaa
/- THE CELL 'sum', in the pinned program and in every row, IS THE sha256 OF THE DUMP (.gsa) THAT YtoeegiaajngpeaaProg.lean LOADS. Nothing in Lean hashes anything: it is a label: what it is worth is what the hold of that sum in a sandbox is worth. -/
noncomputable def Try.pinned : Pinned := { name := "ytoeegiaajngpeaa", sum := "62060a053deba1dfcccb4846b1004d64a6e92d6fcf27444511667cafcc81b353", checked := Try.checked }
namespace Rows
def none {H : Type} : Left H := { results := [], args := [] }

/-- 'seesawlaw06.SetupLess': WHATEVER THE INPUT: true; the input reads as it did. -/
def setupLessSpec : ChangeSpec := { name := "setupLess", fn := fun _ => fun
  | [d1, d2, d3] => { results := [.lit (.bool true)], args := [d1, d2, d3] }
  | _ => none }
def setupLessRow : OpenClaim := { program := "ytoeegiaajngpeaa", sum := "62060a053deba1dfcccb4846b1004d64a6e92d6fcf27444511667cafcc81b353", func := "seesaw/seesawlaw06.SetupLess", spec := "setupLess", unfollowed := true, recurses := true, loops := true, apart := false }
def SetupLessSaid : Prop := setupLessRow.holds Try.pinned (OpenSpec.ofChange setupLessSpec)

/-- ITS FALSE NEIGHBOUR: 'it returns false'. Refute it at one input. -/
def setupLessWrong : ChangeSpec := { name := "setupLess", fn := fun _ => fun
  | [d1, d2, d3] => { results := [.lit (.bool false)], args := [d1, d2, d3] }
  | _ => none }
def SetupLessWrongFalsely : Prop := setupLessRow.holds Try.pinned (OpenSpec.ofChange setupLessWrong)

/-- 'seesawlaw06.SetupAlike': WHATEVER THE INPUT: true; the input reads as it did. -/
def setupAlikeSpec : ChangeSpec := { name := "setupAlike", fn := fun _ => fun
  | [d1, d2] => { results := [.lit (.bool true)], args := [d1, d2] }
  | _ => none }
def setupAlikeRow : OpenClaim := { program := "ytoeegiaajngpeaa", sum := "62060a053deba1dfcccb4846b1004d64a6e92d6fcf27444511667cafcc81b353", func := "seesaw/seesawlaw06.SetupAlike", spec := "setupAlike", unfollowed := true, recurses := true, loops := true, apart := false }
def SetupAlikeSaid : Prop := setupAlikeRow.holds Try.pinned (OpenSpec.ofChange setupAlikeSpec)

/-- ITS FALSE NEIGHBOUR: 'it returns false'. Refute it at one input. -/
def setupAlikeWrong : ChangeSpec := { name := "setupAlike", fn := fun _ => fun
  | [d1, d2] => { results := [.lit (.bool false)], args := [d1, d2] }
  | _ => none }
def SetupAlikeWrongFalsely : Prop := setupAlikeRow.holds Try.pinned (OpenSpec.ofChange setupAlikeWrong)

/-- 'seesawlaw06.SetupTells': WHATEVER THE INPUT: true; the input reads as it did. -/
def setupTellsSpec : ChangeSpec := { name := "setupTells", fn := fun _ => fun
  | [d1, d2] => { results := [.lit (.bool true)], args := [d1, d2] }
  | _ => none }
def setupTellsRow : OpenClaim := { program := "ytoeegiaajngpeaa", sum := "62060a053deba1dfcccb4846b1004d64a6e92d6fcf27444511667cafcc81b353", func := "seesaw/seesawlaw06.SetupTells", spec := "setupTells", unfollowed := true, recurses := true, loops := true, apart := false }
def SetupTellsSaid : Prop := setupTellsRow.holds Try.pinned (OpenSpec.ofChange setupTellsSpec)

/-- ITS FALSE NEIGHBOUR: 'it returns false'. Refute it at one input. -/
def setupTellsWrong : ChangeSpec := { name := "setupTells", fn := fun _ => fun
  | [d1, d2] => { results := [.lit (.bool false)], args := [d1, d2] }
  | _ => none }
def SetupTellsWrongFalsely : Prop := setupTellsRow.holds Try.pinned (OpenSpec.ofChange setupTellsWrong)

/- THE SECOND FORM. 'bulk': how many values and letters a reading holds, each counted each time it is reached (what is shared counts as often as it is met; a slice's spare places count too). A statement '..UptoSaid' is the law's where the arguments, and the package variables that the reading takes, are together of bulk at most 1048576: NARROWER than '..Said'. Prove '..Said' where nothing that the law and all that it calls make is longer than what came in: it says more and counts as full. Else prove '..UptoSaid'. A law counts once. -/
mutual
def uptoBulk {H : Type} : DataW H → Nat
  | .lit (.string bytes) => bytes.length + 1
  | .lit _ => 1
  | .nil => 1
  | .ptr d => uptoBulk d + 1
  | .slice elems spare => uptoBulkAll elems + uptoBulkAll spare + 1
  | .agg parts => uptoBulkAll parts + 1
  | .iface _ d => uptoBulk d + 1
  | .map entries => uptoBulkEntries entries + 1
  | .held _ => 1
def uptoBulkAll {H : Type} : List (DataW H) → Nat
  | [] => 0
  | d :: r => uptoBulk d + uptoBulkAll r
def uptoBulkEntries {H : Type} : List (Lit × DataW H) → Nat
  | [] => 0
  | x :: r => uptoBulkEntry x + uptoBulkEntries r
def uptoBulkEntry {H : Type} : Lit × DataW H → Nat
  | (.string bytes, d) => bytes.length + uptoBulk d + 1
  | (_, d) => uptoBulk d + 1
 end
def uptoSmall : (H : Type) → List (DataW H) → Bool := fun _ ds => decide (uptoBulkAll ds ≤ 1048576)
def OpenSpec.upto (s : _root_.Go.ChangeSpec) : _root_.Go.OpenSpec := { _root_.Go.OpenSpec.ofChange s with cond := some uptoSmall }

/-- 'seesawlaw06.SetupLess', WHERE WHAT IT READS IS OF BULK AT MOST 1048576: true; the input reads as it did. -/
def setupLessUptoRow : OpenClaim := { program := "ytoeegiaajngpeaa", sum := "62060a053deba1dfcccb4846b1004d64a6e92d6fcf27444511667cafcc81b353", func := "seesaw/seesawlaw06.SetupLess", spec := "setupLess", unfollowed := true, recurses := true, loops := true, apart := false, narrowed := true }
def SetupLessUptoSaid : Prop := setupLessUptoRow.holds Try.pinned (OpenSpec.upto setupLessSpec)

/-- 'seesawlaw06.SetupAlike', WHERE WHAT IT READS IS OF BULK AT MOST 1048576: true; the input reads as it did. -/
def setupAlikeUptoRow : OpenClaim := { program := "ytoeegiaajngpeaa", sum := "62060a053deba1dfcccb4846b1004d64a6e92d6fcf27444511667cafcc81b353", func := "seesaw/seesawlaw06.SetupAlike", spec := "setupAlike", unfollowed := true, recurses := true, loops := true, apart := false, narrowed := true }
def SetupAlikeUptoSaid : Prop := setupAlikeUptoRow.holds Try.pinned (OpenSpec.upto setupAlikeSpec)

/-- 'seesawlaw06.SetupTells', WHERE WHAT IT READS IS OF BULK AT MOST 1048576: true; the input reads as it did. -/
def setupTellsUptoRow : OpenClaim := { program := "ytoeegiaajngpeaa", sum := "62060a053deba1dfcccb4846b1004d64a6e92d6fcf27444511667cafcc81b353", func := "seesaw/seesawlaw06.SetupTells", spec := "setupTells", unfollowed := true, recurses := true, loops := true, apart := false, narrowed := true }
def SetupTellsUptoSaid : Prop := setupTellsUptoRow.holds Try.pinned (OpenSpec.upto setupTellsSpec)

end Rows
end Go.Proofs.Ytoeegiaajngpeaa
