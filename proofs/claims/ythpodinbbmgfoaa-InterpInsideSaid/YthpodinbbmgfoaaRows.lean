/-
  No cell of these rows narrows 'for every input' (looked for: loops, veiled, ifaces, maps, wideKeys, modest, calm, conditions, laid).
  DERIVED. THE GIVEN ROWS OF THIS SEAT. 15 by the template 'for every input the law returns true; each argument reads behind the call as it read before'; 0 by the template 'total and deterministic' (their statements: YthpodinbbmgfoaaTotals.lean).
  GIVEN WITH THE SEED: the statements are not yours to turn. If you find one false, say at which input.
  Laid BY PROGRAM, IN A SANDBOX (cutbox-rows.mjs): the forced cells as the released guide's own fill.sh prints them over the translation 50f8d1508b6bc880… (all of the seat's roots in one cut). By AI agents, Wed Nov 11 2026. No macro, syntax, notation, axiom, sorry.
-/
import Derived.Test.YthpodinbbmgfoaaChecked
import GoSem.Claim
import GoSem.ClaimJoined
import GoSem.ClaimMapViews
import Derived.JoinedTies
import Derived.KernelRfl
namespace Go.Proofs.Ythpodinbbmgfoaa
/- THE CELL 'sum', in the pinned program and in every row, IS THE sha256 OF THE DUMP (.gsa) THAT YthpodinbbmgfoaaProg.lean LOADS. Nothing in Lean hashes anything: it is a label: what it is worth is what the hold of that sum in a sandbox is worth. -/
noncomputable def Try.pinned : Pinned := { name := "ythpodinbbmgfoaa", sum := "50f8d1508b6bc8806d38ddfe1a62facec19a0cb120c3a5a836c9279254c68a51", checked := Try.checked }
namespace Rows
def none {H : Type} : Left H := { results := [], args := [] }

/-- 'phonographlaw28.PointSums': WHATEVER THE INPUT: true; the input reads as it did. -/
def pointSumsSpec : ChangeSpec := { name := "pointSums", fn := fun _ => fun
  | [d] => { results := [.lit (.bool true)], args := [d] }
  | _ => none }
def pointSumsRow : OpenClaim := { program := "ythpodinbbmgfoaa", sum := "50f8d1508b6bc8806d38ddfe1a62facec19a0cb120c3a5a836c9279254c68a51", func := "phonograph/phonographlaw28.PointSums", spec := "pointSums", inPlace := ["math.Float64frombits", "math.Float64bits"], unfollowed := true, recurses := true, apart := false }
def PointSumsSaid : Prop := pointSumsRow.holds Try.pinned (OpenSpec.ofChange pointSumsSpec)

/-- ITS FALSE NEIGHBOUR: 'it returns false'. Refute it at one input. -/
def pointSumsWrong : ChangeSpec := { name := "pointSums", fn := fun _ => fun
  | [d] => { results := [.lit (.bool false)], args := [d] }
  | _ => none }
def PointSumsWrongFalsely : Prop := pointSumsRow.holds Try.pinned (OpenSpec.ofChange pointSumsWrong)

/-- 'phonographlaw28.PointTells': WHATEVER THE INPUT: true; the input reads as it did. -/
def pointTellsSpec : ChangeSpec := { name := "pointTells", fn := fun _ => fun
  | [d1, d2] => { results := [.lit (.bool true)], args := [d1, d2] }
  | _ => none }
def pointTellsRow : OpenClaim := { program := "ythpodinbbmgfoaa", sum := "50f8d1508b6bc8806d38ddfe1a62facec19a0cb120c3a5a836c9279254c68a51", func := "phonograph/phonographlaw28.PointTells", spec := "pointTells", inPlace := ["math.Float64frombits", "math.Float64bits"], unfollowed := true, recurses := true, apart := false }
def PointTellsSaid : Prop := pointTellsRow.holds Try.pinned (OpenSpec.ofChange pointTellsSpec)

/-- ITS FALSE NEIGHBOUR: 'it returns false'. Refute it at one input. -/
def pointTellsWrong : ChangeSpec := { name := "pointTells", fn := fun _ => fun
  | [d1, d2] => { results := [.lit (.bool false)], args := [d1, d2] }
  | _ => none }
def PointTellsWrongFalsely : Prop := pointTellsRow.holds Try.pinned (OpenSpec.ofChange pointTellsWrong)

/-- 'phonographlaw28.PointClean': WHATEVER THE INPUT: true; the input reads as it did. -/
def pointCleanSpec : ChangeSpec := { name := "pointClean", fn := fun _ => fun
  | [d1, d2] => { results := [.lit (.bool true)], args := [d1, d2] }
  | _ => none }
def pointCleanRow : OpenClaim := { program := "ythpodinbbmgfoaa", sum := "50f8d1508b6bc8806d38ddfe1a62facec19a0cb120c3a5a836c9279254c68a51", func := "phonograph/phonographlaw28.PointClean", spec := "pointClean", inPlace := ["math.Float64frombits", "math.Float64bits"], unfollowed := true, recurses := true, apart := false }
def PointCleanSaid : Prop := pointCleanRow.holds Try.pinned (OpenSpec.ofChange pointCleanSpec)

/-- ITS FALSE NEIGHBOUR: 'it returns false'. Refute it at one input. -/
def pointCleanWrong : ChangeSpec := { name := "pointClean", fn := fun _ => fun
  | [d1, d2] => { results := [.lit (.bool false)], args := [d1, d2] }
  | _ => none }
def PointCleanWrongFalsely : Prop := pointCleanRow.holds Try.pinned (OpenSpec.ofChange pointCleanWrong)

/-- 'phonographlaw28.PointOrder': WHATEVER THE INPUT: true; the input reads as it did. -/
def pointOrderSpec : ChangeSpec := { name := "pointOrder", fn := fun _ => fun
  | [d1, d2, d3] => { results := [.lit (.bool true)], args := [d1, d2, d3] }
  | _ => none }
def pointOrderRow : OpenClaim := { program := "ythpodinbbmgfoaa", sum := "50f8d1508b6bc8806d38ddfe1a62facec19a0cb120c3a5a836c9279254c68a51", func := "phonograph/phonographlaw28.PointOrder", spec := "pointOrder", inPlace := ["math.Float64frombits", "math.Float64bits"], unfollowed := true, recurses := true, apart := false }
def PointOrderSaid : Prop := pointOrderRow.holds Try.pinned (OpenSpec.ofChange pointOrderSpec)

/-- ITS FALSE NEIGHBOUR: 'it returns false'. Refute it at one input. -/
def pointOrderWrong : ChangeSpec := { name := "pointOrder", fn := fun _ => fun
  | [d1, d2, d3] => { results := [.lit (.bool false)], args := [d1, d2, d3] }
  | _ => none }
def PointOrderWrongFalsely : Prop := pointOrderRow.holds Try.pinned (OpenSpec.ofChange pointOrderWrong)

/-- 'phonographlaw28.PointInts': WHATEVER THE INPUT: true; the input reads as it did. -/
def pointIntsSpec : ChangeSpec := { name := "pointInts", fn := fun _ => fun
  | [d1, d2, d3] => { results := [.lit (.bool true)], args := [d1, d2, d3] }
  | _ => none }
def pointIntsRow : OpenClaim := { program := "ythpodinbbmgfoaa", sum := "50f8d1508b6bc8806d38ddfe1a62facec19a0cb120c3a5a836c9279254c68a51", func := "phonograph/phonographlaw28.PointInts", spec := "pointInts", inPlace := ["math.Float64frombits", "math.Float64bits"], unfollowed := true, recurses := true, apart := false }
def PointIntsSaid : Prop := pointIntsRow.holds Try.pinned (OpenSpec.ofChange pointIntsSpec)

/-- ITS FALSE NEIGHBOUR: 'it returns false'. Refute it at one input. -/
def pointIntsWrong : ChangeSpec := { name := "pointInts", fn := fun _ => fun
  | [d1, d2, d3] => { results := [.lit (.bool false)], args := [d1, d2, d3] }
  | _ => none }
def PointIntsWrongFalsely : Prop := pointIntsRow.holds Try.pinned (OpenSpec.ofChange pointIntsWrong)

/-- 'phonographlaw15.PageAll': WHATEVER THE INPUT: true; the input reads as it did. -/
def pageAllSpec : ChangeSpec := { name := "pageAll", fn := fun _ => fun
  | [d] => { results := [.lit (.bool true)], args := [d] }
  | _ => none }
def pageAllRow : OpenClaim := { program := "ythpodinbbmgfoaa", sum := "50f8d1508b6bc8806d38ddfe1a62facec19a0cb120c3a5a836c9279254c68a51", func := "phonograph/phonographlaw15.PageAll", spec := "pageAll", unfollowed := true, recurses := true, apart := false }
def PageAllSaid : Prop := pageAllRow.holds Try.pinned (OpenSpec.ofChange pageAllSpec)

/-- ITS FALSE NEIGHBOUR: 'it returns false'. Refute it at one input. -/
def pageAllWrong : ChangeSpec := { name := "pageAll", fn := fun _ => fun
  | [d] => { results := [.lit (.bool false)], args := [d] }
  | _ => none }
def PageAllWrongFalsely : Prop := pageAllRow.holds Try.pinned (OpenSpec.ofChange pageAllWrong)

/-- 'phonographlaw15.PageTells': WHATEVER THE INPUT: true; the input reads as it did. -/
def pageTellsSpec : ChangeSpec := { name := "pageTells", fn := fun _ => fun
  | [d1, d2, d3, d4] => { results := [.lit (.bool true)], args := [d1, d2, d3, d4] }
  | _ => none }
def pageTellsRow : OpenClaim := { program := "ythpodinbbmgfoaa", sum := "50f8d1508b6bc8806d38ddfe1a62facec19a0cb120c3a5a836c9279254c68a51", func := "phonograph/phonographlaw15.PageTells", spec := "pageTells", unfollowed := true, recurses := true, apart := false }
def PageTellsSaid : Prop := pageTellsRow.holds Try.pinned (OpenSpec.ofChange pageTellsSpec)

/-- ITS FALSE NEIGHBOUR: 'it returns false'. Refute it at one input. -/
def pageTellsWrong : ChangeSpec := { name := "pageTells", fn := fun _ => fun
  | [d1, d2, d3, d4] => { results := [.lit (.bool false)], args := [d1, d2, d3, d4] }
  | _ => none }
def PageTellsWrongFalsely : Prop := pageTellsRow.holds Try.pinned (OpenSpec.ofChange pageTellsWrong)

/-- 'phonographlaw15.PageKeeps': WHATEVER THE INPUT: true; the input reads as it did. -/
def pageKeepsSpec : ChangeSpec := { name := "pageKeeps", fn := fun _ => fun
  | [d1, d2, d3, d4] => { results := [.lit (.bool true)], args := [d1, d2, d3, d4] }
  | _ => none }
def pageKeepsRow : OpenClaim := { program := "ythpodinbbmgfoaa", sum := "50f8d1508b6bc8806d38ddfe1a62facec19a0cb120c3a5a836c9279254c68a51", func := "phonograph/phonographlaw15.PageKeeps", spec := "pageKeeps", unfollowed := true, recurses := true, apart := false }
def PageKeepsSaid : Prop := pageKeepsRow.holds Try.pinned (OpenSpec.ofChange pageKeepsSpec)

/-- ITS FALSE NEIGHBOUR: 'it returns false'. Refute it at one input. -/
def pageKeepsWrong : ChangeSpec := { name := "pageKeeps", fn := fun _ => fun
  | [d1, d2, d3, d4] => { results := [.lit (.bool false)], args := [d1, d2, d3, d4] }
  | _ => none }
def PageKeepsWrongFalsely : Prop := pageKeepsRow.holds Try.pinned (OpenSpec.ofChange pageKeepsWrong)

/-- 'phonographlaw29.CodeTells': WHATEVER THE INPUT: true; the input reads as it did. -/
def codeTellsSpec : ChangeSpec := { name := "codeTells", fn := fun _ => fun
  | [d1, d2, d3] => { results := [.lit (.bool true)], args := [d1, d2, d3] }
  | _ => none }
def codeTellsRow : OpenClaim := { program := "ythpodinbbmgfoaa", sum := "50f8d1508b6bc8806d38ddfe1a62facec19a0cb120c3a5a836c9279254c68a51", func := "phonograph/phonographlaw29.CodeTells", spec := "codeTells", unfollowed := true, recurses := true, apart := false }
def CodeTellsSaid : Prop := codeTellsRow.holds Try.pinned (OpenSpec.ofChange codeTellsSpec)

/-- ITS FALSE NEIGHBOUR: 'it returns false'. Refute it at one input. -/
def codeTellsWrong : ChangeSpec := { name := "codeTells", fn := fun _ => fun
  | [d1, d2, d3] => { results := [.lit (.bool false)], args := [d1, d2, d3] }
  | _ => none }
def CodeTellsWrongFalsely : Prop := codeTellsRow.holds Try.pinned (OpenSpec.ofChange codeTellsWrong)

/-- 'phonographlaw29.CodeBack': WHATEVER THE INPUT: true; the input reads as it did. -/
def codeBackSpec : ChangeSpec := { name := "codeBack", fn := fun _ => fun
  | [d1, d2] => { results := [.lit (.bool true)], args := [d1, d2] }
  | _ => none }
def codeBackRow : OpenClaim := { program := "ythpodinbbmgfoaa", sum := "50f8d1508b6bc8806d38ddfe1a62facec19a0cb120c3a5a836c9279254c68a51", func := "phonograph/phonographlaw29.CodeBack", spec := "codeBack", unfollowed := true, recurses := true, apart := false }
def CodeBackSaid : Prop := codeBackRow.holds Try.pinned (OpenSpec.ofChange codeBackSpec)

/-- ITS FALSE NEIGHBOUR: 'it returns false'. Refute it at one input. -/
def codeBackWrong : ChangeSpec := { name := "codeBack", fn := fun _ => fun
  | [d1, d2] => { results := [.lit (.bool false)], args := [d1, d2] }
  | _ => none }
def CodeBackWrongFalsely : Prop := codeBackRow.holds Try.pinned (OpenSpec.ofChange codeBackWrong)

/-- 'phonographlaw29.CodeInside': WHATEVER THE INPUT: true; the input reads as it did. -/
def codeInsideSpec : ChangeSpec := { name := "codeInside", fn := fun _ => fun
  | [d] => { results := [.lit (.bool true)], args := [d] }
  | _ => none }
def codeInsideRow : OpenClaim := { program := "ythpodinbbmgfoaa", sum := "50f8d1508b6bc8806d38ddfe1a62facec19a0cb120c3a5a836c9279254c68a51", func := "phonograph/phonographlaw29.CodeInside", spec := "codeInside", unfollowed := true, recurses := true, apart := false }
def CodeInsideSaid : Prop := codeInsideRow.holds Try.pinned (OpenSpec.ofChange codeInsideSpec)

/-- ITS FALSE NEIGHBOUR: 'it returns false'. Refute it at one input. -/
def codeInsideWrong : ChangeSpec := { name := "codeInside", fn := fun _ => fun
  | [d] => { results := [.lit (.bool false)], args := [d] }
  | _ => none }
def CodeInsideWrongFalsely : Prop := codeInsideRow.holds Try.pinned (OpenSpec.ofChange codeInsideWrong)

/-- 'phonographlaw30.InterpFloats': WHATEVER THE INPUT: true; the input reads as it did. -/
def interpFloatsSpec : ChangeSpec := { name := "interpFloats", fn := fun _ => fun
  | [d1, d2] => { results := [.lit (.bool true)], args := [d1, d2] }
  | _ => none }
def interpFloatsRow : OpenClaim := { program := "ythpodinbbmgfoaa", sum := "50f8d1508b6bc8806d38ddfe1a62facec19a0cb120c3a5a836c9279254c68a51", func := "phonograph/phonographlaw30.InterpFloats", spec := "interpFloats", inPlace := ["math.Float64frombits", "math.Float64bits"], unfollowed := true, recurses := true, apart := false }
def InterpFloatsSaid : Prop := interpFloatsRow.holds Try.pinned (OpenSpec.ofChange interpFloatsSpec)

/-- ITS FALSE NEIGHBOUR: 'it returns false'. Refute it at one input. -/
def interpFloatsWrong : ChangeSpec := { name := "interpFloats", fn := fun _ => fun
  | [d1, d2] => { results := [.lit (.bool false)], args := [d1, d2] }
  | _ => none }
def InterpFloatsWrongFalsely : Prop := interpFloatsRow.holds Try.pinned (OpenSpec.ofChange interpFloatsWrong)

/-- 'phonographlaw30.InterpCalls': WHATEVER THE INPUT: true; the input reads as it did. -/
def interpCallsSpec : ChangeSpec := { name := "interpCalls", fn := fun _ => fun
  | [d1, d2] => { results := [.lit (.bool true)], args := [d1, d2] }
  | _ => none }
def interpCallsRow : OpenClaim := { program := "ythpodinbbmgfoaa", sum := "50f8d1508b6bc8806d38ddfe1a62facec19a0cb120c3a5a836c9279254c68a51", func := "phonograph/phonographlaw30.InterpCalls", spec := "interpCalls", inPlace := ["math.Float64bits", "math.Float64frombits"], unfollowed := true, recurses := true, apart := false }
def InterpCallsSaid : Prop := interpCallsRow.holds Try.pinned (OpenSpec.ofChange interpCallsSpec)

/-- ITS FALSE NEIGHBOUR: 'it returns false'. Refute it at one input. -/
def interpCallsWrong : ChangeSpec := { name := "interpCalls", fn := fun _ => fun
  | [d1, d2] => { results := [.lit (.bool false)], args := [d1, d2] }
  | _ => none }
def InterpCallsWrongFalsely : Prop := interpCallsRow.holds Try.pinned (OpenSpec.ofChange interpCallsWrong)

/-- 'phonographlaw30.InterpInside': WHATEVER THE INPUT: true; the input reads as it did. -/
def interpInsideSpec : ChangeSpec := { name := "interpInside", fn := fun _ => fun
  | [d1, d2, d3] => { results := [.lit (.bool true)], args := [d1, d2, d3] }
  | _ => none }
def interpInsideRow : OpenClaim := { program := "ythpodinbbmgfoaa", sum := "50f8d1508b6bc8806d38ddfe1a62facec19a0cb120c3a5a836c9279254c68a51", func := "phonograph/phonographlaw30.InterpInside", spec := "interpInside", inPlace := ["math.Float64bits", "math.Float64frombits"], unfollowed := true, recurses := true, apart := false }
def InterpInsideSaid : Prop := interpInsideRow.holds Try.pinned (OpenSpec.ofChange interpInsideSpec)

/-- ITS FALSE NEIGHBOUR: 'it returns false'. Refute it at one input. -/
def interpInsideWrong : ChangeSpec := { name := "interpInside", fn := fun _ => fun
  | [d1, d2, d3] => { results := [.lit (.bool false)], args := [d1, d2, d3] }
  | _ => none }
def InterpInsideWrongFalsely : Prop := interpInsideRow.holds Try.pinned (OpenSpec.ofChange interpInsideWrong)

/-- 'phonographlaw30.InterpSums': WHATEVER THE INPUT: true; the input reads as it did. -/
def interpSumsSpec : ChangeSpec := { name := "interpSums", fn := fun _ => fun
  | [d1, d2, d3] => { results := [.lit (.bool true)], args := [d1, d2, d3] }
  | _ => none }
def interpSumsRow : OpenClaim := { program := "ythpodinbbmgfoaa", sum := "50f8d1508b6bc8806d38ddfe1a62facec19a0cb120c3a5a836c9279254c68a51", func := "phonograph/phonographlaw30.InterpSums", spec := "interpSums", inPlace := ["math.Float64bits", "math.Float64frombits"], unfollowed := true, recurses := true, apart := false }
def InterpSumsSaid : Prop := interpSumsRow.holds Try.pinned (OpenSpec.ofChange interpSumsSpec)

/-- ITS FALSE NEIGHBOUR: 'it returns false'. Refute it at one input. -/
def interpSumsWrong : ChangeSpec := { name := "interpSums", fn := fun _ => fun
  | [d1, d2, d3] => { results := [.lit (.bool false)], args := [d1, d2, d3] }
  | _ => none }
def InterpSumsWrongFalsely : Prop := interpSumsRow.holds Try.pinned (OpenSpec.ofChange interpSumsWrong)

/- THE SECOND FORM. 'bulk': how many values and letters a reading holds, each counted each time it is reached (what is shared counts as often as it is met; a slice's spare places count too). A statement '..UptoSaid' is the law's where the arguments, and the package variables that the reading takes, are together of bulk at most 1048576: NARROWER than '..Said'. Prove '..Said' where nothing that the law and all that it calls make is longer than what came in: it says more and counts as full. Else prove '..UptoSaid'. A law counts once. -/
mutual
def uptoBulk {H : Type} : DataW H → Nat
  | .lit (.string bytes) => bytes.length + 1
  | .lit _ => 1
  | .nil => 1
  | .ptr d => uptoBulk d + 1
  | .slice elems spare => uptoBulkAll elems + uptoBulkAll spare + 1
  | .agg parts => uptoBulkAll parts + 1
  | .iface _ d => uptoBulk d + 1
  | .map entries => uptoBulkEntries entries + 1
  | .held _ => 1
def uptoBulkAll {H : Type} : List (DataW H) → Nat
  | [] => 0
  | d :: r => uptoBulk d + uptoBulkAll r
def uptoBulkEntries {H : Type} : List (Lit × DataW H) → Nat
  | [] => 0
  | x :: r => uptoBulkEntry x + uptoBulkEntries r
def uptoBulkEntry {H : Type} : Lit × DataW H → Nat
  | (.string bytes, d) => bytes.length + uptoBulk d + 1
  | (_, d) => uptoBulk d + 1
 end
def uptoSmall : (H : Type) → List (DataW H) → Bool := fun _ ds => decide (uptoBulkAll ds ≤ 1048576)
def OpenSpec.upto (s : _root_.Go.ChangeSpec) : _root_.Go.OpenSpec := { _root_.Go.OpenSpec.ofChange s with cond := some uptoSmall }

/-- 'phonographlaw28.PointSums', WHERE WHAT IT READS IS OF BULK AT MOST 1048576: true; the input reads as it did. -/
def pointSumsUptoRow : OpenClaim := { program := "ythpodinbbmgfoaa", sum := "50f8d1508b6bc8806d38ddfe1a62facec19a0cb120c3a5a836c9279254c68a51", func := "phonograph/phonographlaw28.PointSums", spec := "pointSums", inPlace := ["math.Float64frombits", "math.Float64bits"], unfollowed := true, recurses := true, apart := false, narrowed := true }
def PointSumsUptoSaid : Prop := pointSumsUptoRow.holds Try.pinned (OpenSpec.upto pointSumsSpec)

/-- 'phonographlaw28.PointTells', WHERE WHAT IT READS IS OF BULK AT MOST 1048576: true; the input reads as it did. -/
def pointTellsUptoRow : OpenClaim := { program := "ythpodinbbmgfoaa", sum := "50f8d1508b6bc8806d38ddfe1a62facec19a0cb120c3a5a836c9279254c68a51", func := "phonograph/phonographlaw28.PointTells", spec := "pointTells", inPlace := ["math.Float64frombits", "math.Float64bits"], unfollowed := true, recurses := true, apart := false, narrowed := true }
def PointTellsUptoSaid : Prop := pointTellsUptoRow.holds Try.pinned (OpenSpec.upto pointTellsSpec)

/-- 'phonographlaw28.PointClean', WHERE WHAT IT READS IS OF BULK AT MOST 1048576: true; the input reads as it did. -/
def pointCleanUptoRow : OpenClaim := { program := "ythpodinbbmgfoaa", sum := "50f8d1508b6bc8806d38ddfe1a62facec19a0cb120c3a5a836c9279254c68a51", func := "phonograph/phonographlaw28.PointClean", spec := "pointClean", inPlace := ["math.Float64frombits", "math.Float64bits"], unfollowed := true, recurses := true, apart := false, narrowed := true }
def PointCleanUptoSaid : Prop := pointCleanUptoRow.holds Try.pinned (OpenSpec.upto pointCleanSpec)

/-- 'phonographlaw28.PointOrder', WHERE WHAT IT READS IS OF BULK AT MOST 1048576: true; the input reads as it did. -/
def pointOrderUptoRow : OpenClaim := { program := "ythpodinbbmgfoaa", sum := "50f8d1508b6bc8806d38ddfe1a62facec19a0cb120c3a5a836c9279254c68a51", func := "phonograph/phonographlaw28.PointOrder", spec := "pointOrder", inPlace := ["math.Float64frombits", "math.Float64bits"], unfollowed := true, recurses := true, apart := false, narrowed := true }
def PointOrderUptoSaid : Prop := pointOrderUptoRow.holds Try.pinned (OpenSpec.upto pointOrderSpec)

/-- 'phonographlaw28.PointInts', WHERE WHAT IT READS IS OF BULK AT MOST 1048576: true; the input reads as it did. -/
def pointIntsUptoRow : OpenClaim := { program := "ythpodinbbmgfoaa", sum := "50f8d1508b6bc8806d38ddfe1a62facec19a0cb120c3a5a836c9279254c68a51", func := "phonograph/phonographlaw28.PointInts", spec := "pointInts", inPlace := ["math.Float64frombits", "math.Float64bits"], unfollowed := true, recurses := true, apart := false, narrowed := true }
def PointIntsUptoSaid : Prop := pointIntsUptoRow.holds Try.pinned (OpenSpec.upto pointIntsSpec)

/-- 'phonographlaw15.PageAll', WHERE WHAT IT READS IS OF BULK AT MOST 1048576: true; the input reads as it did. -/
def pageAllUptoRow : OpenClaim := { program := "ythpodinbbmgfoaa", sum := "50f8d1508b6bc8806d38ddfe1a62facec19a0cb120c3a5a836c9279254c68a51", func := "phonograph/phonographlaw15.PageAll", spec := "pageAll", unfollowed := true, recurses := true, apart := false, narrowed := true }
def PageAllUptoSaid : Prop := pageAllUptoRow.holds Try.pinned (OpenSpec.upto pageAllSpec)

/-- 'phonographlaw15.PageTells', WHERE WHAT IT READS IS OF BULK AT MOST 1048576: true; the input reads as it did. -/
def pageTellsUptoRow : OpenClaim := { program := "ythpodinbbmgfoaa", sum := "50f8d1508b6bc8806d38ddfe1a62facec19a0cb120c3a5a836c9279254c68a51", func := "phonograph/phonographlaw15.PageTells", spec := "pageTells", unfollowed := true, recurses := true, apart := false, narrowed := true }
def PageTellsUptoSaid : Prop := pageTellsUptoRow.holds Try.pinned (OpenSpec.upto pageTellsSpec)

/-- 'phonographlaw15.PageKeeps', WHERE WHAT IT READS IS OF BULK AT MOST 1048576: true; the input reads as it did. -/
def pageKeepsUptoRow : OpenClaim := { program := "ythpodinbbmgfoaa", sum := "50f8d1508b6bc8806d38ddfe1a62facec19a0cb120c3a5a836c9279254c68a51", func := "phonograph/phonographlaw15.PageKeeps", spec := "pageKeeps", unfollowed := true, recurses := true, apart := false, narrowed := true }
def PageKeepsUptoSaid : Prop := pageKeepsUptoRow.holds Try.pinned (OpenSpec.upto pageKeepsSpec)

/-- 'phonographlaw29.CodeTells', WHERE WHAT IT READS IS OF BULK AT MOST 1048576: true; the input reads as it did. -/
def codeTellsUptoRow : OpenClaim := { program := "ythpodinbbmgfoaa", sum := "50f8d1508b6bc8806d38ddfe1a62facec19a0cb120c3a5a836c9279254c68a51", func := "phonograph/phonographlaw29.CodeTells", spec := "codeTells", unfollowed := true, recurses := true, apart := false, narrowed := true }
def CodeTellsUptoSaid : Prop := codeTellsUptoRow.holds Try.pinned (OpenSpec.upto codeTellsSpec)

/-- 'phonographlaw29.CodeBack', WHERE WHAT IT READS IS OF BULK AT MOST 1048576: true; the input reads as it did. -/
def codeBackUptoRow : OpenClaim := { program := "ythpodinbbmgfoaa", sum := "50f8d1508b6bc8806d38ddfe1a62facec19a0cb120c3a5a836c9279254c68a51", func := "phonograph/phonographlaw29.CodeBack", spec := "codeBack", unfollowed := true, recurses := true, apart := false, narrowed := true }
def CodeBackUptoSaid : Prop := codeBackUptoRow.holds Try.pinned (OpenSpec.upto codeBackSpec)

/-- 'phonographlaw29.CodeInside', WHERE WHAT IT READS IS OF BULK AT MOST 1048576: true; the input reads as it did. -/
def codeInsideUptoRow : OpenClaim := { program := "ythpodinbbmgfoaa", sum := "50f8d1508b6bc8806d38ddfe1a62facec19a0cb120c3a5a836c9279254c68a51", func := "phonograph/phonographlaw29.CodeInside", spec := "codeInside", unfollowed := true, recurses := true, apart := false, narrowed := true }
def CodeInsideUptoSaid : Prop := codeInsideUptoRow.holds Try.pinned (OpenSpec.upto codeInsideSpec)

/-- 'phonographlaw30.InterpFloats', WHERE WHAT IT READS IS OF BULK AT MOST 1048576: true; the input reads as it did. -/
def interpFloatsUptoRow : OpenClaim := { program := "ythpodinbbmgfoaa", sum := "50f8d1508b6bc8806d38ddfe1a62facec19a0cb120c3a5a836c9279254c68a51", func := "phonograph/phonographlaw30.InterpFloats", spec := "interpFloats", inPlace := ["math.Float64frombits", "math.Float64bits"], unfollowed := true, recurses := true, apart := false, narrowed := true }
def InterpFloatsUptoSaid : Prop := interpFloatsUptoRow.holds Try.pinned (OpenSpec.upto interpFloatsSpec)

/-- 'phonographlaw30.InterpCalls', WHERE WHAT IT READS IS OF BULK AT MOST 1048576: true; the input reads as it did. -/
def interpCallsUptoRow : OpenClaim := { program := "ythpodinbbmgfoaa", sum := "50f8d1508b6bc8806d38ddfe1a62facec19a0cb120c3a5a836c9279254c68a51", func := "phonograph/phonographlaw30.InterpCalls", spec := "interpCalls", inPlace := ["math.Float64bits", "math.Float64frombits"], unfollowed := true, recurses := true, apart := false, narrowed := true }
def InterpCallsUptoSaid : Prop := interpCallsUptoRow.holds Try.pinned (OpenSpec.upto interpCallsSpec)

/-- 'phonographlaw30.InterpInside', WHERE WHAT IT READS IS OF BULK AT MOST 1048576: true; the input reads as it did. -/
def interpInsideUptoRow : OpenClaim := { program := "ythpodinbbmgfoaa", sum := "50f8d1508b6bc8806d38ddfe1a62facec19a0cb120c3a5a836c9279254c68a51", func := "phonograph/phonographlaw30.InterpInside", spec := "interpInside", inPlace := ["math.Float64bits", "math.Float64frombits"], unfollowed := true, recurses := true, apart := false, narrowed := true }
def InterpInsideUptoSaid : Prop := interpInsideUptoRow.holds Try.pinned (OpenSpec.upto interpInsideSpec)

/-- 'phonographlaw30.InterpSums', WHERE WHAT IT READS IS OF BULK AT MOST 1048576: true; the input reads as it did. -/
def interpSumsUptoRow : OpenClaim := { program := "ythpodinbbmgfoaa", sum := "50f8d1508b6bc8806d38ddfe1a62facec19a0cb120c3a5a836c9279254c68a51", func := "phonograph/phonographlaw30.InterpSums", spec := "interpSums", inPlace := ["math.Float64bits", "math.Float64frombits"], unfollowed := true, recurses := true, apart := false, narrowed := true }
def InterpSumsUptoSaid : Prop := interpSumsUptoRow.holds Try.pinned (OpenSpec.upto interpSumsSpec)

end Rows
end Go.Proofs.Ythpodinbbmgfoaa
