/-
  No cell of these rows narrows 'for every input' (looked for: loops, veiled, ifaces, maps, wideKeys, modest, calm, conditions, laid).
  DERIVED. THE GIVEN ROWS OF THIS SEAT. 6 by the template 'for every input the law returns true; each argument reads behind the call as it read before'; 0 by the template 'total and deterministic' (their statements: YthenepdbgeafkaaTotals.lean).
  GIVEN WITH THE SEED: the statements are not yours to turn. If you find one false, say at which input.
  Laid BY PROGRAM, IN A SANDBOX (cutbox-rows.mjs): the forced cells as the released guide's own fill.sh prints them over the translation a5284d53a9812f12… (all of the seat's roots in one cut). By AI agents, Wed Nov 11 2026. No macro, syntax, notation, axiom, sorry.
-/
import Derived.Test.YthenepdbgeafkaaChecked
import GoSem.Claim
import GoSem.ClaimJoined
import GoSem.ClaimMapViews
import Derived.JoinedTies
import Derived.KernelRfl
namespace Go.Proofs.Ythenepdbgeafkaa
/- THE CELL 'sum', in the pinned program and in every row, IS THE sha256 OF THE DUMP (.gsa) THAT YthenepdbgeafkaaProg.lean LOADS. Nothing in Lean hashes anything: it is a label: what it is worth is what the hold of that sum in a sandbox is worth. -/
noncomputable def Try.pinned : Pinned := { name := "ythenepdbgeafkaa", sum := "a5284d53a9812f127e8aa7ee6e3678e9b9ac9900349f04a40514e462deb8469e", checked := Try.checked }
namespace Rows
def none {H : Type} : Left H := { results := [], args := [] }

/-- 'phonographlaw26.TcpEnds': WHATEVER THE INPUT: true; the input reads as it did. -/
def tcpEndsSpec : ChangeSpec := { name := "tcpEnds", fn := fun _ => fun
  | [d1, d2, d3, d4, d5] => { results := [.lit (.bool true)], args := [d1, d2, d3, d4, d5] }
  | _ => none }
def tcpEndsRow : OpenClaim := { program := "ythenepdbgeafkaa", sum := "a5284d53a9812f127e8aa7ee6e3678e9b9ac9900349f04a40514e462deb8469e", func := "phonograph/phonographlaw26.TcpEnds", spec := "tcpEnds", unfollowed := true, recurses := true, apart := false }
def TcpEndsSaid : Prop := tcpEndsRow.holds Try.pinned (OpenSpec.ofChange tcpEndsSpec)

/-- ITS FALSE NEIGHBOUR: 'it returns false'. Refute it at one input. -/
def tcpEndsWrong : ChangeSpec := { name := "tcpEnds", fn := fun _ => fun
  | [d1, d2, d3, d4, d5] => { results := [.lit (.bool false)], args := [d1, d2, d3, d4, d5] }
  | _ => none }
def TcpEndsWrongFalsely : Prop := tcpEndsRow.holds Try.pinned (OpenSpec.ofChange tcpEndsWrong)

/-- 'phonographlaw26.TcpPrefix': WHATEVER THE INPUT: true; the input reads as it did. -/
def tcpPrefixSpec : ChangeSpec := { name := "tcpPrefix", fn := fun _ => fun
  | [d1, d2, d3, d4] => { results := [.lit (.bool true)], args := [d1, d2, d3, d4] }
  | _ => none }
def tcpPrefixRow : OpenClaim := { program := "ythenepdbgeafkaa", sum := "a5284d53a9812f127e8aa7ee6e3678e9b9ac9900349f04a40514e462deb8469e", func := "phonograph/phonographlaw26.TcpPrefix", spec := "tcpPrefix", unfollowed := true, recurses := true, apart := false }
def TcpPrefixSaid : Prop := tcpPrefixRow.holds Try.pinned (OpenSpec.ofChange tcpPrefixSpec)

/-- ITS FALSE NEIGHBOUR: 'it returns false'. Refute it at one input. -/
def tcpPrefixWrong : ChangeSpec := { name := "tcpPrefix", fn := fun _ => fun
  | [d1, d2, d3, d4] => { results := [.lit (.bool false)], args := [d1, d2, d3, d4] }
  | _ => none }
def TcpPrefixWrongFalsely : Prop := tcpPrefixRow.holds Try.pinned (OpenSpec.ofChange tcpPrefixWrong)

/-- 'phonographlaw26.TcpOpens': WHATEVER THE INPUT: true; the input reads as it did. -/
def tcpOpensSpec : ChangeSpec := { name := "tcpOpens", fn := fun _ => fun
  | [d1, d2, d3] => { results := [.lit (.bool true)], args := [d1, d2, d3] }
  | _ => none }
def tcpOpensRow : OpenClaim := { program := "ythenepdbgeafkaa", sum := "a5284d53a9812f127e8aa7ee6e3678e9b9ac9900349f04a40514e462deb8469e", func := "phonograph/phonographlaw26.TcpOpens", spec := "tcpOpens", unfollowed := true, recurses := true, apart := false }
def TcpOpensSaid : Prop := tcpOpensRow.holds Try.pinned (OpenSpec.ofChange tcpOpensSpec)

/-- ITS FALSE NEIGHBOUR: 'it returns false'. Refute it at one input. -/
def tcpOpensWrong : ChangeSpec := { name := "tcpOpens", fn := fun _ => fun
  | [d1, d2, d3] => { results := [.lit (.bool false)], args := [d1, d2, d3] }
  | _ => none }
def TcpOpensWrongFalsely : Prop := tcpOpensRow.holds Try.pinned (OpenSpec.ofChange tcpOpensWrong)

/-- 'phonographlaw26.TcpWaits': WHATEVER THE INPUT: true; the input reads as it did. -/
def tcpWaitsSpec : ChangeSpec := { name := "tcpWaits", fn := fun _ => fun
  | [d1, d2, d3] => { results := [.lit (.bool true)], args := [d1, d2, d3] }
  | _ => none }
def tcpWaitsRow : OpenClaim := { program := "ythenepdbgeafkaa", sum := "a5284d53a9812f127e8aa7ee6e3678e9b9ac9900349f04a40514e462deb8469e", func := "phonograph/phonographlaw26.TcpWaits", spec := "tcpWaits", unfollowed := true, recurses := true, apart := false }
def TcpWaitsSaid : Prop := tcpWaitsRow.holds Try.pinned (OpenSpec.ofChange tcpWaitsSpec)

/-- ITS FALSE NEIGHBOUR: 'it returns false'. Refute it at one input. -/
def tcpWaitsWrong : ChangeSpec := { name := "tcpWaits", fn := fun _ => fun
  | [d1, d2, d3] => { results := [.lit (.bool false)], args := [d1, d2, d3] }
  | _ => none }
def TcpWaitsWrongFalsely : Prop := tcpWaitsRow.holds Try.pinned (OpenSpec.ofChange tcpWaitsWrong)

/-- 'phonographlaw26.TcpKeeps': WHATEVER THE INPUT: true; the input reads as it did. -/
def tcpKeepsSpec : ChangeSpec := { name := "tcpKeeps", fn := fun _ => fun
  | [d1, d2, d3, d4, d5] => { results := [.lit (.bool true)], args := [d1, d2, d3, d4, d5] }
  | _ => none }
def tcpKeepsRow : OpenClaim := { program := "ythenepdbgeafkaa", sum := "a5284d53a9812f127e8aa7ee6e3678e9b9ac9900349f04a40514e462deb8469e", func := "phonograph/phonographlaw26.TcpKeeps", spec := "tcpKeeps", unfollowed := true, recurses := true, apart := false }
def TcpKeepsSaid : Prop := tcpKeepsRow.holds Try.pinned (OpenSpec.ofChange tcpKeepsSpec)

/-- ITS FALSE NEIGHBOUR: 'it returns false'. Refute it at one input. -/
def tcpKeepsWrong : ChangeSpec := { name := "tcpKeeps", fn := fun _ => fun
  | [d1, d2, d3, d4, d5] => { results := [.lit (.bool false)], args := [d1, d2, d3, d4, d5] }
  | _ => none }
def TcpKeepsWrongFalsely : Prop := tcpKeepsRow.holds Try.pinned (OpenSpec.ofChange tcpKeepsWrong)

/-- 'phonographlaw26.TcpAcked': WHATEVER THE INPUT: true; the input reads as it did. -/
def tcpAckedSpec : ChangeSpec := { name := "tcpAcked", fn := fun _ => fun
  | [d1, d2, d3, d4] => { results := [.lit (.bool true)], args := [d1, d2, d3, d4] }
  | _ => none }
def tcpAckedRow : OpenClaim := { program := "ythenepdbgeafkaa", sum := "a5284d53a9812f127e8aa7ee6e3678e9b9ac9900349f04a40514e462deb8469e", func := "phonograph/phonographlaw26.TcpAcked", spec := "tcpAcked", unfollowed := true, recurses := true, apart := false }
def TcpAckedSaid : Prop := tcpAckedRow.holds Try.pinned (OpenSpec.ofChange tcpAckedSpec)

/-- ITS FALSE NEIGHBOUR: 'it returns false'. Refute it at one input. -/
def tcpAckedWrong : ChangeSpec := { name := "tcpAcked", fn := fun _ => fun
  | [d1, d2, d3, d4] => { results := [.lit (.bool false)], args := [d1, d2, d3, d4] }
  | _ => none }
def TcpAckedWrongFalsely : Prop := tcpAckedRow.holds Try.pinned (OpenSpec.ofChange tcpAckedWrong)

/- THE SECOND FORM. 'bulk': how many values and letters a reading holds, each counted each time it is reached (what is shared counts as often as it is met; a slice's spare places count too). A statement '..UptoSaid' is the law's where the arguments, and the package variables that the reading takes, are together of bulk at most 1048576: NARROWER than '..Said'. Prove '..Said' where nothing that the law and all that it calls make is longer than what came in: it says more and counts as full. Else prove '..UptoSaid'. A law counts once. -/
mutual
def uptoBulk {H : Type} : DataW H → Nat
  | .lit (.string bytes) => bytes.length + 1
  | .lit _ => 1
  | .nil => 1
  | .ptr d => uptoBulk d + 1
  | .slice elems spare => uptoBulkAll elems + uptoBulkAll spare + 1
  | .agg parts => uptoBulkAll parts + 1
  | .iface _ d => uptoBulk d + 1
  | .map entries => uptoBulkEntries entries + 1
  | .held _ => 1
def uptoBulkAll {H : Type} : List (DataW H) → Nat
  | [] => 0
  | d :: r => uptoBulk d + uptoBulkAll r
def uptoBulkEntries {H : Type} : List (Lit × DataW H) → Nat
  | [] => 0
  | x :: r => uptoBulkEntry x + uptoBulkEntries r
def uptoBulkEntry {H : Type} : Lit × DataW H → Nat
  | (.string bytes, d) => bytes.length + uptoBulk d + 1
  | (_, d) => uptoBulk d + 1
 end
def uptoSmall : (H : Type) → List (DataW H) → Bool := fun _ ds => decide (uptoBulkAll ds ≤ 1048576)
def OpenSpec.upto (s : _root_.Go.ChangeSpec) : _root_.Go.OpenSpec := { _root_.Go.OpenSpec.ofChange s with cond := some uptoSmall }

/-- 'phonographlaw26.TcpEnds', WHERE WHAT IT READS IS OF BULK AT MOST 1048576: true; the input reads as it did. -/
def tcpEndsUptoRow : OpenClaim := { program := "ythenepdbgeafkaa", sum := "a5284d53a9812f127e8aa7ee6e3678e9b9ac9900349f04a40514e462deb8469e", func := "phonograph/phonographlaw26.TcpEnds", spec := "tcpEnds", unfollowed := true, recurses := true, apart := false, narrowed := true }
def TcpEndsUptoSaid : Prop := tcpEndsUptoRow.holds Try.pinned (OpenSpec.upto tcpEndsSpec)

/-- 'phonographlaw26.TcpPrefix', WHERE WHAT IT READS IS OF BULK AT MOST 1048576: true; the input reads as it did. -/
def tcpPrefixUptoRow : OpenClaim := { program := "ythenepdbgeafkaa", sum := "a5284d53a9812f127e8aa7ee6e3678e9b9ac9900349f04a40514e462deb8469e", func := "phonograph/phonographlaw26.TcpPrefix", spec := "tcpPrefix", unfollowed := true, recurses := true, apart := false, narrowed := true }
def TcpPrefixUptoSaid : Prop := tcpPrefixUptoRow.holds Try.pinned (OpenSpec.upto tcpPrefixSpec)

/-- 'phonographlaw26.TcpOpens', WHERE WHAT IT READS IS OF BULK AT MOST 1048576: true; the input reads as it did. -/
def tcpOpensUptoRow : OpenClaim := { program := "ythenepdbgeafkaa", sum := "a5284d53a9812f127e8aa7ee6e3678e9b9ac9900349f04a40514e462deb8469e", func := "phonograph/phonographlaw26.TcpOpens", spec := "tcpOpens", unfollowed := true, recurses := true, apart := false, narrowed := true }
def TcpOpensUptoSaid : Prop := tcpOpensUptoRow.holds Try.pinned (OpenSpec.upto tcpOpensSpec)

/-- 'phonographlaw26.TcpWaits', WHERE WHAT IT READS IS OF BULK AT MOST 1048576: true; the input reads as it did. -/
def tcpWaitsUptoRow : OpenClaim := { program := "ythenepdbgeafkaa", sum := "a5284d53a9812f127e8aa7ee6e3678e9b9ac9900349f04a40514e462deb8469e", func := "phonograph/phonographlaw26.TcpWaits", spec := "tcpWaits", unfollowed := true, recurses := true, apart := false, narrowed := true }
def TcpWaitsUptoSaid : Prop := tcpWaitsUptoRow.holds Try.pinned (OpenSpec.upto tcpWaitsSpec)

/-- 'phonographlaw26.TcpKeeps', WHERE WHAT IT READS IS OF BULK AT MOST 1048576: true; the input reads as it did. -/
def tcpKeepsUptoRow : OpenClaim := { program := "ythenepdbgeafkaa", sum := "a5284d53a9812f127e8aa7ee6e3678e9b9ac9900349f04a40514e462deb8469e", func := "phonograph/phonographlaw26.TcpKeeps", spec := "tcpKeeps", unfollowed := true, recurses := true, apart := false, narrowed := true }
def TcpKeepsUptoSaid : Prop := tcpKeepsUptoRow.holds Try.pinned (OpenSpec.upto tcpKeepsSpec)

/-- 'phonographlaw26.TcpAcked', WHERE WHAT IT READS IS OF BULK AT MOST 1048576: true; the input reads as it did. -/
def tcpAckedUptoRow : OpenClaim := { program := "ythenepdbgeafkaa", sum := "a5284d53a9812f127e8aa7ee6e3678e9b9ac9900349f04a40514e462deb8469e", func := "phonograph/phonographlaw26.TcpAcked", spec := "tcpAcked", unfollowed := true, recurses := true, apart := false, narrowed := true }
def TcpAckedUptoSaid : Prop := tcpAckedUptoRow.holds Try.pinned (OpenSpec.upto tcpAckedSpec)

end Rows
end Go.Proofs.Ythenepdbgeafkaa
