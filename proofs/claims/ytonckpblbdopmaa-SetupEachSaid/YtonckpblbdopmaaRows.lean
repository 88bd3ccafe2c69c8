/-
  NARROWER THAN 'FOR EVERY INPUT', by the rows' own cells (each row's printed sentence says how): SetupEach: loops · SetupLess: loops · SetupAlike: loops · SetupTells: loops.
  DERIVED. THE GIVEN ROWS OF THIS SEAT. 15 by the template 'for every input the law returns true; each argument reads behind the call as it read before'; 0 by the template 'total and deterministic' (their statements: YtonckpblbdopmaaTotals.lean).
  GIVEN WITH THE SEED: the statements are not yours to turn. If you find one false, say at which input.
  Laid BY PROGRAM, IN A SANDBOX (cutbox-rows.mjs): the forced cells as the released guide's own fill.sh prints them over the translation 95e58a0f904365b1… (all of the seat's roots in one cut). By AI agents, Wed Nov 11 2026. No macro, syntax, notation, axiom, sorry.
-/
import Derived.Test.YtonckpblbdopmaaChecked
import GoSem.Claim
import GoSem.ClaimJoined
import GoSem.ClaimMapViews
import Derived.JoinedTies
import Derived.KernelRfl
namespace Go.Proofs.Ytonckpblbdopmaa
/- THE CELL 'sum', in the pinned program and in every row, IS THE sha256 OF THE DUMP (.gsa) THAT YtonckpblbdopmaaProg.lean LOADS. Nothing in Lean hashes anything: it is a label: what it is worth is what the hold of that sum in a sandbox is worth. -/
noncomputable def Try.pinned : Pinned := { name := "ytonckpblbdopmaa", sum := "95e58a0f904365b1c05048a9a5b197aef37451a25e5f7921b3f4efb2bcdd1862", checked := Try.checked }
namespace Rows
def none {H : Type} : Left H := { results := [], args := [] }

/-- 'seesawlaw03.FrameAdded': WHATEVER THE INPUT: true; the input reads as it did. -/
def frameAddedSpec : ChangeSpec := { name := "frameAdded", fn := fun _ => fun
  | [d1, d2, d3] => { results := [.lit (.bool true)], args := [d1, d2, d3] }
  | _ => none }
def frameAddedRow : OpenClaim := { program := "ytonckpblbdopmaa", sum := "95e58a0f904365b1c05048a9a5b197aef37451a25e5f7921b3f4efb2bcdd1862", func := "seesaw/seesawlaw03.FrameAdded", spec := "frameAdded", inPlace := ["internal/abi.NoEscape", "internal/bytealg.MakeNoZero"], unfollowed := true, recurses := true, apart := false }
def FrameAddedSaid : Prop := frameAddedRow.holds Try.pinned (OpenSpec.ofChange frameAddedSpec)

/-- ITS FALSE NEIGHBOUR: 'it returns false'. Refute it at one input. -/
def frameAddedWrong : ChangeSpec := { name := "frameAdded", fn := fun _ => fun
  | [d1, d2, d3] => { results := [.lit (.bool false)], args := [d1, d2, d3] }
  | _ => none }
def FrameAddedWrongFalsely : Prop := frameAddedRow.holds Try.pinned (OpenSpec.ofChange frameAddedWrong)

/-- 'seesawlaw03.FrameNames': WHATEVER THE INPUT: true; the input reads as it did. -/
def frameNamesSpec : ChangeSpec := { name := "frameNames", fn := fun _ => fun
  | [] => { results := [.lit (.bool true)], args := [] }
  | _ => none }
def frameNamesRow : OpenClaim := { program := "ytonckpblbdopmaa", sum := "95e58a0f904365b1c05048a9a5b197aef37451a25e5f7921b3f4efb2bcdd1862", func := "seesaw/seesawlaw03.FrameNames", spec := "frameNames", inPlace := ["internal/abi.NoEscape", "internal/bytealg.MakeNoZero"], unfollowed := true, recurses := true, apart := false }
def FrameNamesSaid : Prop := frameNamesRow.holds Try.pinned (OpenSpec.ofChange frameNamesSpec)

/-- ITS FALSE NEIGHBOUR: 'it returns false'. Refute it at one input. -/
def frameNamesWrong : ChangeSpec := { name := "frameNames", fn := fun _ => fun
  | [] => { results := [.lit (.bool false)], args := [] }
  | _ => none }
def FrameNamesWrongFalsely : Prop := frameNamesRow.holds Try.pinned (OpenSpec.ofChange frameNamesWrong)

/-- 'seesawlaw03.FrameTells': WHATEVER THE INPUT: true; the input reads as it did. -/
def frameTellsSpec : ChangeSpec := { name := "frameTells", fn := fun _ => fun
  | [d1, d2] => { results := [.lit (.bool true)], args := [d1, d2] }
  | _ => none }
def frameTellsRow : OpenClaim := { program := "ytonckpblbdopmaa", sum := "95e58a0f904365b1c05048a9a5b197aef37451a25e5f7921b3f4efb2bcdd1862", func := "seesaw/seesawlaw03.FrameTells", spec := "frameTells", inPlace := ["internal/abi.NoEscape", "internal/bytealg.MakeNoZero"], unfollowed := true, recurses := true, apart := false }
def FrameTellsSaid : Prop := frameTellsRow.holds Try.pinned (OpenSpec.ofChange frameTellsSpec)

/-- ITS FALSE NEIGHBOUR: 'it returns false'. Refute it at one input. -/
def frameTellsWrong : ChangeSpec := { name := "frameTells", fn := fun _ => fun
  | [d1, d2] => { results := [.lit (.bool false)], args := [d1, d2] }
  | _ => none }
def FrameTellsWrongFalsely : Prop := frameTellsRow.holds Try.pinned (OpenSpec.ofChange frameTellsWrong)

/-- 'seesawlaw03.FrameBack': WHATEVER THE INPUT: true; the input reads as it did. -/
def frameBackSpec : ChangeSpec := { name := "frameBack", fn := fun _ => fun
  | [d1, d2, d3] => { results := [.lit (.bool true)], args := [d1, d2, d3] }
  | _ => none }
def frameBackRow : OpenClaim := { program := "ytonckpblbdopmaa", sum := "95e58a0f904365b1c05048a9a5b197aef37451a25e5f7921b3f4efb2bcdd1862", func := "seesaw/seesawlaw03.FrameBack", spec := "frameBack", inPlace := ["internal/abi.NoEscape", "internal/bytealg.MakeNoZero"], unfollowed := true, recurses := true, apart := false }
def FrameBackSaid : Prop := frameBackRow.holds Try.pinned (OpenSpec.ofChange frameBackSpec)

/-- ITS FALSE NEIGHBOUR: 'it returns false'. Refute it at one input. -/
def frameBackWrong : ChangeSpec := { name := "frameBack", fn := fun _ => fun
  | [d1, d2, d3] => { results := [.lit (.bool false)], args := [d1, d2, d3] }
  | _ => none }
def FrameBackWrongFalsely : Prop := frameBackRow.holds Try.pinned (OpenSpec.ofChange frameBackWrong)

/-- 'seesawlaw03.FrameBent': WHATEVER THE INPUT: true; the input reads as it did. -/
def frameBentSpec : ChangeSpec := { name := "frameBent", fn := fun _ => fun
  | [d1, d2, d3] => { results := [.lit (.bool true)], args := [d1, d2, d3] }
  | _ => none }
def frameBentRow : OpenClaim := { program := "ytonckpblbdopmaa", sum := "95e58a0f904365b1c05048a9a5b197aef37451a25e5f7921b3f4efb2bcdd1862", func := "seesaw/seesawlaw03.FrameBent", spec := "frameBent", inPlace := ["internal/abi.NoEscape", "internal/bytealg.MakeNoZero"], unfollowed := true, recurses := true, apart := false }
def FrameBentSaid : Prop := frameBentRow.holds Try.pinned (OpenSpec.ofChange frameBentSpec)

/-- ITS FALSE NEIGHBOUR: 'it returns false'. Refute it at one input. -/
def frameBentWrong : ChangeSpec := { name := "frameBent", fn := fun _ => fun
  | [d1, d2, d3] => { results := [.lit (.bool false)], args := [d1, d2, d3] }
  | _ => none }
def FrameBentWrongFalsely : Prop := frameBentRow.holds Try.pinned (OpenSpec.ofChange frameBentWrong)

/-- 'seesawlaw06.SetupStripes': WHATEVER THE INPUT: true; the input reads as it did. -/
def setupStripesSpec : ChangeSpec := { name := "setupStripes", fn := fun _ => fun
  | [d1, d2, d3, d4] => { results := [.lit (.bool true)], args := [d1, d2, d3, d4] }
  | _ => none }
def setupStripesRow : OpenClaim := { program := "ytonckpblbdopmaa", sum := "95e58a0f904365b1c05048a9a5b197aef37451a25e5f7921b3f4efb2bcdd1862", func := "seesaw/seesawlaw06.SetupStripes", spec := "setupStripes", unfollowed := true, recurses := true, apart := false }
def SetupStripesSaid : Prop := setupStripesRow.holds Try.pinned (OpenSpec.ofChange setupStripesSpec)

/-- ITS FALSE NEIGHBOUR: 'it returns false'. Refute it at one input. -/
def setupStripesWrong : ChangeSpec := { name := "setupStripes", fn := fun _ => fun
  | [d1, d2, d3, d4] => { results := [.lit (.bool false)], args := [d1, d2, d3, d4] }
  | _ => none }
def SetupStripesWrongFalsely : Prop := setupStripesRow.holds Try.pinned (OpenSpec.ofChange setupStripesWrong)

/-- 'seesawlaw06.SetupParted': WHATEVER THE INPUT: true; the input reads as it did. -/
def setupPartedSpec : ChangeSpec := { name := "setupParted", fn := fun _ => fun
  | [d1, d2] => { results := [.lit (.bool true)], args := [d1, d2] }
  | _ => none }
def setupPartedRow : OpenClaim := { program := "ytonckpblbdopmaa", sum := "95e58a0f904365b1c05048a9a5b197aef37451a25e5f7921b3f4efb2bcdd1862", func := "seesaw/seesawlaw06.SetupParted", spec := "setupParted", unfollowed := true, recurses := true, apart := false }
def SetupPartedSaid : Prop := setupPartedRow.holds Try.pinned (OpenSpec.ofChange setupPartedSpec)

/-- ITS FALSE NEIGHBOUR: 'it returns false'. Refute it at one input. -/
def setupPartedWrong : ChangeSpec := { name := "setupParted", fn := fun _ => fun
  | [d1, d2] => { results := [.lit (.bool false)], args := [d1, d2] }
  | _ => none }
def SetupPartedWrongFalsely : Prop := setupPartedRow.holds Try.pinned (OpenSpec.ofChange setupPartedWrong)

/-- 'seesawlaw05.CodeNames': WHATEVER THE INPUT: true; the input reads as it did. -/
def codeNamesSpec : ChangeSpec := { name := "codeNames", fn := fun _ => fun
  | [] => { results := [.lit (.bool true)], args := [] }
  | _ => none }
def codeNamesRow : OpenClaim := { program := "ytonckpblbdopmaa", sum := "95e58a0f904365b1c05048a9a5b197aef37451a25e5f7921b3f4efb2bcdd1862", func := "seesaw/seesawlaw05.CodeNames", spec := "codeNames", unfollowed := true, recurses := true, apart := false }
def CodeNamesSaid : Prop := codeNamesRow.holds Try.pinned (OpenSpec.ofChange codeNamesSpec)

/-- ITS FALSE NEIGHBOUR: 'it returns false'. Refute it at one input. -/
def codeNamesWrong : ChangeSpec := { name := "codeNames", fn := fun _ => fun
  | [] => { results := [.lit (.bool false)], args := [] }
  | _ => none }
def CodeNamesWrongFalsely : Prop := codeNamesRow.holds Try.pinned (OpenSpec.ofChange codeNamesWrong)

/-- 'seesawlaw06.SetupNames': WHATEVER THE INPUT: true; the input reads as it did. -/
def setupNamesSpec : ChangeSpec := { name := "setupNames", fn := fun _ => fun
  | [] => { results := [.lit (.bool true)], args := [] }
  | _ => none }
def setupNamesRow : OpenClaim := { program := "ytonckpblbdopmaa", sum := "95e58a0f904365b1c05048a9a5b197aef37451a25e5f7921b3f4efb2bcdd1862", func := "seesaw/seesawlaw06.SetupNames", spec := "setupNames", unfollowed := true, recurses := true, apart := false }
def SetupNamesSaid : Prop := setupNamesRow.holds Try.pinned (OpenSpec.ofChange setupNamesSpec)

/-- ITS FALSE NEIGHBOUR: 'it returns false'. Refute it at one input. -/
def setupNamesWrong : ChangeSpec := { name := "setupNames", fn := fun _ => fun
  | [] => { results := [.lit (.bool false)], args := [] }
  | _ => none }
def SetupNamesWrongFalsely : Prop := setupNamesRow.holds Try.pinned (OpenSpec.ofChange setupNamesWrong)

/-- 'seesawlaw06.SetupEach': WHATEVER THE INPUT: true; the input reads as it did. -/
def setupEachSpec : ChangeSpec := { name := "setupEach", fn := fun _ => fun
  | [d] => { results := [.lit (.bool true)], args := [d] }
  | _ => none }
def setupEachRow : OpenClaim := { program := "ytonckpblbdopmaa", sum := "95e58a0f904365b1c05048a9a5b197aef37451a25e5f7921b3f4efb2bcdd1862", func := "seesaw/seesawlaw06.SetupEach", spec := "setupEach", unfollowed := true, recurses := true, loops := true, apart := false }
def SetupEachSaid : Prop := setupEachRow.holds Try.pinned (OpenSpec.ofChange setupEachSpec)

/-- ITS FALSE NEIGHBOUR: 'it returns false'. Refute it at one input. -/
def setupEachWrong : ChangeSpec := { name := "setupEach", fn := fun _ => fun
  | [d] => { results := [.lit (.bool false)], args := [d] }
  | _ => none }
def SetupEachWrongFalsely : Prop := setupEachRow.holds Try.pinned (OpenSpec.ofChange setupEachWrong)

/-- 'seesawlaw06.SetupLess': WHATEVER THE INPUT: true; the input reads as it did. -/
def setupLessSpec : ChangeSpec := { name := "setupLess", fn := fun _ => fun
  | [d1, d2, d3] => { results := [.lit (.bool true)], args := [d1, d2, d3] }
  | _ => none }
def setupLessRow : OpenClaim := { program := "ytonckpblbdopmaa", sum := "95e58a0f904365b1c05048a9a5b197aef37451a25e5f7921b3f4efb2bcdd1862", func := "seesaw/seesawlaw06.SetupLess", spec := "setupLess", unfollowed := true, recurses := true, loops := true, apart := false }
def SetupLessSaid : Prop := setupLessRow.holds Try.pinned (OpenSpec.ofChange setupLessSpec)

/-- ITS FALSE NEIGHBOUR: 'it returns false'. Refute it at one input. -/
def setupLessWrong : ChangeSpec := { name := "setupLess", fn := fun _ => fun
  | [d1, d2, d3] => { results := [.lit (.bool false)], args := [d1, d2, d3] }
  | _ => none }
def SetupLessWrongFalsely : Prop := setupLessRow.holds Try.pinned (OpenSpec.ofChange setupLessWrong)

/-- 'seesawlaw06.SetupAlike': WHATEVER THE INPUT: true; the input reads as it did. -/
def setupAlikeSpec : ChangeSpec := { name := "setupAlike", fn := fun _ => fun
  | [d1, d2] => { results := [.lit (.bool true)], args := [d1, d2] }
  | _ => none }
def setupAlikeRow : OpenClaim := { program := "ytonckpblbdopmaa", sum := "95e58a0f904365b1c05048a9a5b197aef37451a25e5f7921b3f4efb2bcdd1862", func := "seesaw/seesawlaw06.SetupAlike", spec := "setupAlike", unfollowed := true, recurses := true, loops := true, apart := false }
def SetupAlikeSaid : Prop := setupAlikeRow.holds Try.pinned (OpenSpec.ofChange setupAlikeSpec)

/-- ITS FALSE NEIGHBOUR: 'it returns false'. Refute it at one input. -/
def setupAlikeWrong : ChangeSpec := { name := "setupAlike", fn := fun _ => fun
  | [d1, d2] => { results := [.lit (.bool false)], args := [d1, d2] }
  | _ => none }
def SetupAlikeWrongFalsely : Prop := setupAlikeRow.holds Try.pinned (OpenSpec.ofChange setupAlikeWrong)

/-- 'seesawlaw06.SetupTells': WHATEVER THE INPUT: true; the input reads as it did. -/
def setupTellsSpec : ChangeSpec := { name := "setupTells", fn := fun _ => fun
  | [d1, d2] => { results := [.lit (.bool true)], args := [d1, d2] }
  | _ => none }
def setupTellsRow : OpenClaim := { program := "ytonckpblbdopmaa", sum := "95e58a0f904365b1c05048a9a5b197aef37451a25e5f7921b3f4efb2bcdd1862", func := "seesaw/seesawlaw06.SetupTells", spec := "setupTells", unfollowed := true, recurses := true, loops := true, apart := false }
def SetupTellsSaid : Prop := setupTellsRow.holds Try.pinned (OpenSpec.ofChange setupTellsSpec)

/-- ITS FALSE NEIGHBOUR: 'it returns false'. Refute it at one input. -/
def setupTellsWrong : ChangeSpec := { name := "setupTells", fn := fun _ => fun
  | [d1, d2] => { results := [.lit (.bool false)], args := [d1, d2] }
  | _ => none }
def SetupTellsWrongFalsely : Prop := setupTellsRow.holds Try.pinned (OpenSpec.ofChange setupTellsWrong)

/-- 'seesawlaw07.PackNames': WHATEVER THE INPUT: true; the input reads as it did. -/
def packNamesSpec : ChangeSpec := { name := "packNames", fn := fun _ => fun
  | [] => { results := [.lit (.bool true)], args := [] }
  | _ => none }
def packNamesRow : OpenClaim := { program := "ytonckpblbdopmaa", sum := "95e58a0f904365b1c05048a9a5b197aef37451a25e5f7921b3f4efb2bcdd1862", func := "seesaw/seesawlaw07.PackNames", spec := "packNames", inPlace := ["internal/abi.NoEscape", "internal/bytealg.MakeNoZero"], unfollowed := true, recurses := true, apart := false }
def PackNamesSaid : Prop := packNamesRow.holds Try.pinned (OpenSpec.ofChange packNamesSpec)

/-- ITS FALSE NEIGHBOUR: 'it returns false'. Refute it at one input. -/
def packNamesWrong : ChangeSpec := { name := "packNames", fn := fun _ => fun
  | [] => { results := [.lit (.bool false)], args := [] }
  | _ => none }
def PackNamesWrongFalsely : Prop := packNamesRow.holds Try.pinned (OpenSpec.ofChange packNamesWrong)

/-- 'seesawlaw07.PackBody': WHATEVER THE INPUT: true; the input reads as it did. -/
def packBodySpec : ChangeSpec := { name := "packBody", fn := fun _ => fun
  | [d] => { results := [.lit (.bool true)], args := [d] }
  | _ => none }
def packBodyRow : OpenClaim := { program := "ytonckpblbdopmaa", sum := "95e58a0f904365b1c05048a9a5b197aef37451a25e5f7921b3f4efb2bcdd1862", func := "seesaw/seesawlaw07.PackBody", spec := "packBody", inPlace := ["internal/abi.NoEscape", "internal/bytealg.MakeNoZero"], unfollowed := true, recurses := true, apart := false }
def PackBodySaid : Prop := packBodyRow.holds Try.pinned (OpenSpec.ofChange packBodySpec)

/-- ITS FALSE NEIGHBOUR: 'it returns false'. Refute it at one input. -/
def packBodyWrong : ChangeSpec := { name := "packBody", fn := fun _ => fun
  | [d] => { results := [.lit (.bool false)], args := [d] }
  | _ => none }
def PackBodyWrongFalsely : Prop := packBodyRow.holds Try.pinned (OpenSpec.ofChange packBodyWrong)

/- THE SECOND FORM. 'bulk': how many values and letters a reading holds, each counted each time it is reached (what is shared counts as often as it is met; a slice's spare places count too). A statement '..UptoSaid' is the law's where the arguments, and the package variables that the reading takes, are together of bulk at most 1048576: NARROWER than '..Said'. Prove '..Said' where nothing that the law and all that it calls make is longer than what came in: it says more and counts as full. Else prove '..UptoSaid'. A law counts once. -/
mutual
def uptoBulk {H : Type} : DataW H → Nat
  | .lit (.string bytes) => bytes.length + 1
  | .lit _ => 1
  | .nil => 1
  | .ptr d => uptoBulk d + 1
  | .slice elems spare => uptoBulkAll elems + uptoBulkAll spare + 1
  | .agg parts => uptoBulkAll parts + 1
  | .iface _ d => uptoBulk d + 1
  | .map entries => uptoBulkEntries entries + 1
  | .held _ => 1
def uptoBulkAll {H : Type} : List (DataW H) → Nat
  | [] => 0
  | d :: r => uptoBulk d + uptoBulkAll r
def uptoBulkEntries {H : Type} : List (Lit × DataW H) → Nat
  | [] => 0
  | x :: r => uptoBulkEntry x + uptoBulkEntries r
def uptoBulkEntry {H : Type} : Lit × DataW H → Nat
  | (.string bytes, d) => bytes.length + uptoBulk d + 1
  | (_, d) => uptoBulk d + 1
 end
def uptoSmall : (H : Type) → List (DataW H) → Bool := fun _ ds => decide (uptoBulkAll ds ≤ 1048576)
def OpenSpec.upto (s : _root_.Go.ChangeSpec) : _root_.Go.OpenSpec := { _root_.Go.OpenSpec.ofChange s with cond := some uptoSmall }

/-- 'seesawlaw03.FrameAdded', WHERE WHAT IT READS IS OF BULK AT MOST 1048576: true; the input reads as it did. -/
def frameAddedUptoRow : OpenClaim := { program := "ytonckpblbdopmaa", sum := "95e58a0f904365b1c05048a9a5b197aef37451a25e5f7921b3f4efb2bcdd1862", func := "seesaw/seesawlaw03.FrameAdded", spec := "frameAdded", inPlace := ["internal/abi.NoEscape", "internal/bytealg.MakeNoZero"], unfollowed := true, recurses := true, apart := false, narrowed := true }
def FrameAddedUptoSaid : Prop := frameAddedUptoRow.holds Try.pinned (OpenSpec.upto frameAddedSpec)

/-- 'seesawlaw03.FrameNames', WHERE WHAT IT READS IS OF BULK AT MOST 1048576: true; the input reads as it did. -/
def frameNamesUptoRow : OpenClaim := { program := "ytonckpblbdopmaa", sum := "95e58a0f904365b1c05048a9a5b197aef37451a25e5f7921b3f4efb2bcdd1862", func := "seesaw/seesawlaw03.FrameNames", spec := "frameNames", inPlace := ["internal/abi.NoEscape", "internal/bytealg.MakeNoZero"], unfollowed := true, recurses := true, apart := false, narrowed := true }
def FrameNamesUptoSaid : Prop := frameNamesUptoRow.holds Try.pinned (OpenSpec.upto frameNamesSpec)

/-- 'seesawlaw03.FrameTells', WHERE WHAT IT READS IS OF BULK AT MOST 1048576: true; the input reads as it did. -/
def frameTellsUptoRow : OpenClaim := { program := "ytonckpblbdopmaa", sum := "95e58a0f904365b1c05048a9a5b197aef37451a25e5f7921b3f4efb2bcdd1862", func := "seesaw/seesawlaw03.FrameTells", spec := "frameTells", inPlace := ["internal/abi.NoEscape", "internal/bytealg.MakeNoZero"], unfollowed := true, recurses := true, apart := false, narrowed := true }
def FrameTellsUptoSaid : Prop := frameTellsUptoRow.holds Try.pinned (OpenSpec.upto frameTellsSpec)

/-- 'seesawlaw03.FrameBack', WHERE WHAT IT READS IS OF BULK AT MOST 1048576: true; the input reads as it did. -/
def frameBackUptoRow : OpenClaim := { program := "ytonckpblbdopmaa", sum := "95e58a0f904365b1c05048a9a5b197aef37451a25e5f7921b3f4efb2bcdd1862", func := "seesaw/seesawlaw03.FrameBack", spec := "frameBack", inPlace := ["internal/abi.NoEscape", "internal/bytealg.MakeNoZero"], unfollowed := true, recurses := true, apart := false, narrowed := true }
def FrameBackUptoSaid : Prop := frameBackUptoRow.holds Try.pinned (OpenSpec.upto frameBackSpec)

/-- 'seesawlaw03.FrameBent', WHERE WHAT IT READS IS OF BULK AT MOST 1048576: true; the input reads as it did. -/
def frameBentUptoRow : OpenClaim := { program := "ytonckpblbdopmaa", sum := "95e58a0f904365b1c05048a9a5b197aef37451a25e5f7921b3f4efb2bcdd1862", func := "seesaw/seesawlaw03.FrameBent", spec := "frameBent", inPlace := ["internal/abi.NoEscape", "internal/bytealg.MakeNoZero"], unfollowed := true, recurses := true, apart := false, narrowed := true }
def FrameBentUptoSaid : Prop := frameBentUptoRow.holds Try.pinned (OpenSpec.upto frameBentSpec)

/-- 'seesawlaw06.SetupStripes', WHERE WHAT IT READS IS OF BULK AT MOST 1048576: true; the input reads as it did. -/
def setupStripesUptoRow : OpenClaim := { program := "ytonckpblbdopmaa", sum := "95e58a0f904365b1c05048a9a5b197aef37451a25e5f7921b3f4efb2bcdd1862", func := "seesaw/seesawlaw06.SetupStripes", spec := "setupStripes", unfollowed := true, recurses := true, apart := false, narrowed := true }
def SetupStripesUptoSaid : Prop := setupStripesUptoRow.holds Try.pinned (OpenSpec.upto setupStripesSpec)

/-- 'seesawlaw06.SetupParted', WHERE WHAT IT READS IS OF BULK AT MOST 1048576: true; the input reads as it did. -/
def setupPartedUptoRow : OpenClaim := { program := "ytonckpblbdopmaa", sum := "95e58a0f904365b1c05048a9a5b197aef37451a25e5f7921b3f4efb2bcdd1862", func := "seesaw/seesawlaw06.SetupParted", spec := "setupParted", unfollowed := true, recurses := true, apart := false, narrowed := true }
def SetupPartedUptoSaid : Prop := setupPartedUptoRow.holds Try.pinned (OpenSpec.upto setupPartedSpec)

/-- 'seesawlaw05.CodeNames', WHERE WHAT IT READS IS OF BULK AT MOST 1048576: true; the input reads as it did. -/
def codeNamesUptoRow : OpenClaim := { program := "ytonckpblbdopmaa", sum := "95e58a0f904365b1c05048a9a5b197aef37451a25e5f7921b3f4efb2bcdd1862", func := "seesaw/seesawlaw05.CodeNames", spec := "codeNames", unfollowed := true, recurses := true, apart := false, narrowed := true }
def CodeNamesUptoSaid : Prop := codeNamesUptoRow.holds Try.pinned (OpenSpec.upto codeNamesSpec)

/-- 'seesawlaw06.SetupNames', WHERE WHAT IT READS IS OF BULK AT MOST 1048576: true; the input reads as it did. -/
def setupNamesUptoRow : OpenClaim := { program := "ytonckpblbdopmaa", sum := "95e58a0f904365b1c05048a9a5b197aef37451a25e5f7921b3f4efb2bcdd1862", func := "seesaw/seesawlaw06.SetupNames", spec := "setupNames", unfollowed := true, recurses := true, apart := false, narrowed := true }
def SetupNamesUptoSaid : Prop := setupNamesUptoRow.holds Try.pinned (OpenSpec.upto setupNamesSpec)

/-- 'seesawlaw06.SetupEach', WHERE WHAT IT READS IS OF BULK AT MOST 1048576: true; the input reads as it did. -/
def setupEachUptoRow : OpenClaim := { program := "ytonckpblbdopmaa", sum := "95e58a0f904365b1c05048a9a5b197aef37451a25e5f7921b3f4efb2bcdd1862", func := "seesaw/seesawlaw06.SetupEach", spec := "setupEach", unfollowed := true, recurses := true, loops := true, apart := false, narrowed := true }
def SetupEachUptoSaid : Prop := setupEachUptoRow.holds Try.pinned (OpenSpec.upto setupEachSpec)

/-- 'seesawlaw06.SetupLess', WHERE WHAT IT READS IS OF BULK AT MOST 1048576: true; the input reads as it did. -/
def setupLessUptoRow : OpenClaim := { program := "ytonckpblbdopmaa", sum := "95e58a0f904365b1c05048a9a5b197aef37451a25e5f7921b3f4efb2bcdd1862", func := "seesaw/seesawlaw06.SetupLess", spec := "setupLess", unfollowed := true, recurses := true, loops := true, apart := false, narrowed := true }
def SetupLessUptoSaid : Prop := setupLessUptoRow.holds Try.pinned (OpenSpec.upto setupLessSpec)

/-- 'seesawlaw06.SetupAlike', WHERE WHAT IT READS IS OF BULK AT MOST 1048576: true; the input reads as it did. -/
def setupAlikeUptoRow : OpenClaim := { program := "ytonckpblbdopmaa", sum := "95e58a0f904365b1c05048a9a5b197aef37451a25e5f7921b3f4efb2bcdd1862", func := "seesaw/seesawlaw06.SetupAlike", spec := "setupAlike", unfollowed := true, recurses := true, loops := true, apart := false, narrowed := true }
def SetupAlikeUptoSaid : Prop := setupAlikeUptoRow.holds Try.pinned (OpenSpec.upto setupAlikeSpec)

/-- 'seesawlaw06.SetupTells', WHERE WHAT IT READS IS OF BULK AT MOST 1048576: true; the input reads as it did. -/
def setupTellsUptoRow : OpenClaim := { program := "ytonckpblbdopmaa", sum := "95e58a0f904365b1c05048a9a5b197aef37451a25e5f7921b3f4efb2bcdd1862", func := "seesaw/seesawlaw06.SetupTells", spec := "setupTells", unfollowed := true, recurses := true, loops := true, apart := false, narrowed := true }
def SetupTellsUptoSaid : Prop := setupTellsUptoRow.holds Try.pinned (OpenSpec.upto setupTellsSpec)

/-- 'seesawlaw07.PackNames', WHERE WHAT IT READS IS OF BULK AT MOST 1048576: true; the input reads as it did. -/
def packNamesUptoRow : OpenClaim := { program := "ytonckpblbdopmaa", sum := "95e58a0f904365b1c05048a9a5b197aef37451a25e5f7921b3f4efb2bcdd1862", func := "seesaw/seesawlaw07.PackNames", spec := "packNames", inPlace := ["internal/abi.NoEscape", "internal/bytealg.MakeNoZero"], unfollowed := true, recurses := true, apart := false, narrowed := true }
def PackNamesUptoSaid : Prop := packNamesUptoRow.holds Try.pinned (OpenSpec.upto packNamesSpec)

/-- 'seesawlaw07.PackBody', WHERE WHAT IT READS IS OF BULK AT MOST 1048576: true; the input reads as it did. -/
def packBodyUptoRow : OpenClaim := { program := "ytonckpblbdopmaa", sum := "95e58a0f904365b1c05048a9a5b197aef37451a25e5f7921b3f4efb2bcdd1862", func := "seesaw/seesawlaw07.PackBody", spec := "packBody", inPlace := ["internal/abi.NoEscape", "internal/bytealg.MakeNoZero"], unfollowed := true, recurses := true, apart := false, narrowed := true }
def PackBodyUptoSaid : Prop := packBodyUptoRow.holds Try.pinned (OpenSpec.upto packBodySpec)

end Rows
end Go.Proofs.Ytonckpblbdopmaa
