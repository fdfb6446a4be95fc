/-
  No cell of these rows narrows 'for every input' (looked for: loops, veiled, ifaces, maps, wideKeys, modest, calm, conditions, laid).
  DERIVED. THE GIVEN ROWS OF THIS SEAT. 3 by the template 'for every input the law returns true; each argument reads behind the call as it read before'; 0 by the template 'total and deterministic' (their statements: YtfblognifnnadaaTotals.lean).
  GIVEN WITH THE SEED: the statements are not yours to turn. If you find one false, say at which input.
  Laid BY PROGRAM, IN A SANDBOX (cutbox-rows.mjs): the forced cells as the released guide's own fill.sh prints them over the translation 34f39d9cb22b91e5… (all of the seat's roots in one cut). By AI agents, Wed Nov 11 2026. No macro, syntax, notation, axiom, sorry.
-/
import Derived.Test.YtfblognifnnadaaChecked
import GoSem.Claim
import GoSem.ClaimJoined
import GoSem.ClaimMapViews
import Derived.JoinedTies
import Derived.KernelRfl
namespace Go.Proofs.Ytfblognifnnadaa
/- THE CELL 'sum', in the pinned program and in every row, IS THE sha256 OF THE DUMP (.gsa) THAT YtfblognifnnadaaProg.lean LOADS. Nothing in Lean hashes anything: it is a label: what it is worth is what the hold of that sum in a sandbox is worth. -/
noncomputable def Try.pinned : Pinned := { name := "ytfblognifnnadaa", sum := "34f39d9cb22b91e52157f1212619227cc25575106bb54a7dd897321a95a9b640", checked := Try.checked }
namespace Rows
def none {H : Type} : Left H := { results := [], args := [] }

/-- 'phonographlaw16.WheelFirst': WHATEVER THE INPUT: true; the input reads as it did. -/
def wheelFirstSpec : ChangeSpec := { name := "wheelFirst", fn := fun _ => fun
  | [d] => { results := [.lit (.bool true)], args := [d] }
  | _ => none }
def wheelFirstRow : OpenClaim := { program := "ytfblognifnnadaa", sum := "34f39d9cb22b91e52157f1212619227cc25575106bb54a7dd897321a95a9b640", func := "phonograph/phonographlaw16.WheelFirst", spec := "wheelFirst", inPlace := ["slices.overlaps[phonograph/api.Timer]"], unfollowed := true, recurses := true, apart := false }
def WheelFirstSaid : Prop := wheelFirstRow.holds Try.pinned (OpenSpec.ofChange wheelFirstSpec)

/-- ITS FALSE NEIGHBOUR: 'it returns false'. Refute it at one input. -/
def wheelFirstWrong : ChangeSpec := { name := "wheelFirst", fn := fun _ => fun
  | [d] => { results := [.lit (.bool false)], args := [d] }
  | _ => none }
def WheelFirstWrongFalsely : Prop := wheelFirstRow.holds Try.pinned (OpenSpec.ofChange wheelFirstWrong)

/-- 'phonographlaw16.WheelSteps': WHATEVER THE INPUT: true; the input reads as it did. -/
def wheelStepsSpec : ChangeSpec := { name := "wheelSteps", fn := fun _ => fun
  | [d1, d2, d3] => { results := [.lit (.bool true)], args := [d1, d2, d3] }
  | _ => none }
def wheelStepsRow : OpenClaim := { program := "ytfblognifnnadaa", sum := "34f39d9cb22b91e52157f1212619227cc25575106bb54a7dd897321a95a9b640", func := "phonograph/phonographlaw16.WheelSteps", spec := "wheelSteps", inPlace := ["slices.overlaps[phonograph/api.Timer]"], unfollowed := true, recurses := true, apart := false }
def WheelStepsSaid : Prop := wheelStepsRow.holds Try.pinned (OpenSpec.ofChange wheelStepsSpec)

/-- ITS FALSE NEIGHBOUR: 'it returns false'. Refute it at one input. -/
def wheelStepsWrong : ChangeSpec := { name := "wheelSteps", fn := fun _ => fun
  | [d1, d2, d3] => { results := [.lit (.bool false)], args := [d1, d2, d3] }
  | _ => none }
def WheelStepsWrongFalsely : Prop := wheelStepsRow.holds Try.pinned (OpenSpec.ofChange wheelStepsWrong)

/-- 'phonographlaw08.QueueCarries': WHATEVER THE INPUT: true; the input reads as it did. -/
def queueCarriesSpec : ChangeSpec := { name := "queueCarries", fn := fun _ => fun
  | [d1, d2] => { results := [.lit (.bool true)], args := [d1, d2] }
  | _ => none }
def queueCarriesRow : OpenClaim := { program := "ytfblognifnnadaa", sum := "34f39d9cb22b91e52157f1212619227cc25575106bb54a7dd897321a95a9b640", func := "phonograph/phonographlaw08.QueueCarries", spec := "queueCarries", unfollowed := true, recurses := true, apart := false }
def QueueCarriesSaid : Prop := queueCarriesRow.holds Try.pinned (OpenSpec.ofChange queueCarriesSpec)

/-- ITS FALSE NEIGHBOUR: 'it returns false'. Refute it at one input. -/
def queueCarriesWrong : ChangeSpec := { name := "queueCarries", fn := fun _ => fun
  | [d1, d2] => { results := [.lit (.bool false)], args := [d1, d2] }
  | _ => none }
def QueueCarriesWrongFalsely : Prop := queueCarriesRow.holds Try.pinned (OpenSpec.ofChange queueCarriesWrong)

/- THE SECOND FORM. 'bulk': how many values and letters a reading holds, each counted each time it is reached (what is shared counts as often as it is met; a slice's spare places count too). A statement '..UptoSaid' is the law's where the arguments, and the package variables that the reading takes, are together of bulk at most 1048576: NARROWER than '..Said'. Prove '..Said' where nothing that the law and all that it calls make is longer than what came in: it says more and counts as full. Else prove '..UptoSaid'. A law counts once. -/
mutual
def uptoBulk {H : Type} : DataW H → Nat
  | .lit (.string bytes) => bytes.length + 1
  | .lit _ => 1
  | .nil => 1
  | .ptr d => uptoBulk d + 1
  | .slice elems spare => uptoBulkAll elems + uptoBulkAll spare + 1
  | .agg parts => uptoBulkAll parts + 1
  | .iface _ d => uptoBulk d + 1
  | .map entries => uptoBulkEntries entries + 1
  | .held _ => 1
def uptoBulkAll {H : Type} : List (DataW H) → Nat
  | [] => 0
  | d :: r => uptoBulk d + uptoBulkAll r
def uptoBulkEntries {H : Type} : List (Lit × DataW H) → Nat
  | [] => 0
  | x :: r => uptoBulkEntry x + uptoBulkEntries r
def uptoBulkEntry {H : Type} : Lit × DataW H → Nat
  | (.string bytes, d) => bytes.length + uptoBulk d + 1
  | (_, d) => uptoBulk d + 1
 end
def uptoSmall : (H : Type) → List (DataW H) → Bool := fun _ ds => decide (uptoBulkAll ds ≤ 1048576)
def OpenSpec.upto (s : _root_.Go.ChangeSpec) : _root_.Go.OpenSpec := { _root_.Go.OpenSpec.ofChange s with cond := some uptoSmall }

/-- 'phonographlaw16.WheelFirst', WHERE WHAT IT READS IS OF BULK AT MOST 1048576: true; the input reads as it did. -/
def wheelFirstUptoRow : OpenClaim := { program := "ytfblognifnnadaa", sum := "34f39d9cb22b91e52157f1212619227cc25575106bb54a7dd897321a95a9b640", func := "phonograph/phonographlaw16.WheelFirst", spec := "wheelFirst", inPlace := ["slices.overlaps[phonograph/api.Timer]"], unfollowed := true, recurses := true, apart := false, narrowed := true }
def WheelFirstUptoSaid : Prop := wheelFirstUptoRow.holds Try.pinned (OpenSpec.upto wheelFirstSpec)

/-- 'phonographlaw16.WheelSteps', WHERE WHAT IT READS IS OF BULK AT MOST 1048576: true; the input reads as it did. -/
def wheelStepsUptoRow : OpenClaim := { program := "ytfblognifnnadaa", sum := "34f39d9cb22b91e52157f1212619227cc25575106bb54a7dd897321a95a9b640", func := "phonograph/phonographlaw16.WheelSteps", spec := "wheelSteps", inPlace := ["slices.overlaps[phonograph/api.Timer]"], unfollowed := true, recurses := true, apart := false, narrowed := true }
def WheelStepsUptoSaid : Prop := wheelStepsUptoRow.holds Try.pinned (OpenSpec.upto wheelStepsSpec)

/-- 'phonographlaw08.QueueCarries', WHERE WHAT IT READS IS OF BULK AT MOST 1048576: true; the input reads as it did. -/
def queueCarriesUptoRow : OpenClaim := { program := "ytfblognifnnadaa", sum := "34f39d9cb22b91e52157f1212619227cc25575106bb54a7dd897321a95a9b640", func := "phonograph/phonographlaw08.QueueCarries", spec := "queueCarries", unfollowed := true, recurses := true, apart := false, narrowed := true }
def QueueCarriesUptoSaid : Prop := queueCarriesUptoRow.holds Try.pinned (OpenSpec.upto queueCarriesSpec)

end Rows
end Go.Proofs.Ytfblognifnnadaa
