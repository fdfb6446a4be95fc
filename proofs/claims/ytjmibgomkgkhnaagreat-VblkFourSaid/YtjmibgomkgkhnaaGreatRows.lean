/-
  No cell of these rows narrows 'for every input' (looked for: loops, veiled, ifaces, maps, wideKeys, modest, calm, conditions, laid).
  DERIVED. THE GIVEN ROWS OF THIS SEAT. 4 by the template 'for every input the law returns true; each argument reads behind the call as it read before'; 0 by the template 'total and deterministic' (their statements: YtjmibgomkgkhnaaGreatTotals.lean).
  GIVEN WITH THE SEED: the statements are not yours to turn. If you find one false, say at which input.
  Laid BY PROGRAM, IN A SANDBOX (cutbox-rows.mjs): the forced cells as the released guide's own fill.sh prints them over the translation 66221887e95f6f82… (all of the seat's roots in one cut). By AI agents, Wed Nov 11 2026. No macro, syntax, notation, axiom, sorry.
-/
import Derived.Test.YtjmibgomkgkhnaaGreatChecked
import GoSem.Claim
import GoSem.ClaimJoined
import GoSem.ClaimMapViews
import Derived.JoinedTies
import Derived.KernelRfl
namespace Go.Proofs.YtjmibgomkgkhnaaGreat
/- THE CELL 'sum', in the pinned program and in every row, IS THE sha256 OF THE DUMP (.gsa) THAT YtjmibgomkgkhnaaGreatProg.lean LOADS. Nothing in Lean hashes anything: it is a label: what it is worth is what the hold of that sum in a sandbox is worth. -/
noncomputable def Tryz.pinned : Pinned := { name := "ytjmibgomkgkhnaagreat", sum := "66221887e95f6f828b44911ed5901eb63bee1ac2a0324fd5faa200db182b7883", checked := Tryz.checked }
namespace Rows
def none {H : Type} : Left H := { results := [], args := [] }

/-- 'phonographlaw10.VnetDrops': WHATEVER THE INPUT: true; the input reads as it did. -/
def vnetDropsSpec : ChangeSpec := { name := "vnetDrops", fn := fun _ => fun
  | [d] => { results := [.lit (.bool true)], args := [d] }
  | _ => none }
def vnetDropsRow : OpenClaim := { program := "ytjmibgomkgkhnaagreat", sum := "66221887e95f6f828b44911ed5901eb63bee1ac2a0324fd5faa200db182b7883", func := "phonograph/phonographlaw10.VnetDrops", spec := "vnetDrops", unfollowed := true, recurses := true, apart := false }
def VnetDropsSaid : Prop := vnetDropsRow.holds Tryz.pinned (OpenSpec.ofChange vnetDropsSpec)

/-- ITS FALSE NEIGHBOUR: 'it returns false'. Refute it at one input. -/
def vnetDropsWrong : ChangeSpec := { name := "vnetDrops", fn := fun _ => fun
  | [d] => { results := [.lit (.bool false)], args := [d] }
  | _ => none }
def VnetDropsWrongFalsely : Prop := vnetDropsRow.holds Tryz.pinned (OpenSpec.ofChange vnetDropsWrong)

/-- 'phonographlaw10.VnetCarries': WHATEVER THE INPUT: true; the input reads as it did. -/
def vnetCarriesSpec : ChangeSpec := { name := "vnetCarries", fn := fun _ => fun
  | [d1, d2] => { results := [.lit (.bool true)], args := [d1, d2] }
  | _ => none }
def vnetCarriesRow : OpenClaim := { program := "ytjmibgomkgkhnaagreat", sum := "66221887e95f6f828b44911ed5901eb63bee1ac2a0324fd5faa200db182b7883", func := "phonograph/phonographlaw10.VnetCarries", spec := "vnetCarries", unfollowed := true, recurses := true, apart := false }
def VnetCarriesSaid : Prop := vnetCarriesRow.holds Tryz.pinned (OpenSpec.ofChange vnetCarriesSpec)

/-- ITS FALSE NEIGHBOUR: 'it returns false'. Refute it at one input. -/
def vnetCarriesWrong : ChangeSpec := { name := "vnetCarries", fn := fun _ => fun
  | [d1, d2] => { results := [.lit (.bool false)], args := [d1, d2] }
  | _ => none }
def VnetCarriesWrongFalsely : Prop := vnetCarriesRow.holds Tryz.pinned (OpenSpec.ofChange vnetCarriesWrong)

/-- 'phonographlaw09.VblkFour': WHATEVER THE INPUT: true; the input reads as it did. -/
def vblkFourSpec : ChangeSpec := { name := "vblkFour", fn := fun _ => fun
  | [d1, d2] => { results := [.lit (.bool true)], args := [d1, d2] }
  | _ => none }
def vblkFourRow : OpenClaim := { program := "ytjmibgomkgkhnaagreat", sum := "66221887e95f6f828b44911ed5901eb63bee1ac2a0324fd5faa200db182b7883", func := "phonograph/phonographlaw09.VblkFour", spec := "vblkFour", unfollowed := true, recurses := true, apart := false }
def VblkFourSaid : Prop := vblkFourRow.holds Tryz.pinned (OpenSpec.ofChange vblkFourSpec)

/-- ITS FALSE NEIGHBOUR: 'it returns false'. Refute it at one input. -/
def vblkFourWrong : ChangeSpec := { name := "vblkFour", fn := fun _ => fun
  | [d1, d2] => { results := [.lit (.bool false)], args := [d1, d2] }
  | _ => none }
def VblkFourWrongFalsely : Prop := vblkFourRow.holds Tryz.pinned (OpenSpec.ofChange vblkFourWrong)

/-- 'phonographlaw09.VblkWrites': WHATEVER THE INPUT: true; the input reads as it did. -/
def vblkWritesSpec : ChangeSpec := { name := "vblkWrites", fn := fun _ => fun
  | [d1, d2, d3] => { results := [.lit (.bool true)], args := [d1, d2, d3] }
  | _ => none }
def vblkWritesRow : OpenClaim := { program := "ytjmibgomkgkhnaagreat", sum := "66221887e95f6f828b44911ed5901eb63bee1ac2a0324fd5faa200db182b7883", func := "phonograph/phonographlaw09.VblkWrites", spec := "vblkWrites", unfollowed := true, recurses := true, apart := false }
def VblkWritesSaid : Prop := vblkWritesRow.holds Tryz.pinned (OpenSpec.ofChange vblkWritesSpec)

/-- ITS FALSE NEIGHBOUR: 'it returns false'. Refute it at one input. -/
def vblkWritesWrong : ChangeSpec := { name := "vblkWrites", fn := fun _ => fun
  | [d1, d2, d3] => { results := [.lit (.bool false)], args := [d1, d2, d3] }
  | _ => none }
def VblkWritesWrongFalsely : Prop := vblkWritesRow.holds Tryz.pinned (OpenSpec.ofChange vblkWritesWrong)

/- THE SECOND FORM. 'bulk': how many values and letters a reading holds, each counted each time it is reached (what is shared counts as often as it is met; a slice's spare places count too). A statement '..UptoSaid' is the law's where the arguments, and the package variables that the reading takes, are together of bulk at most 1048576: NARROWER than '..Said'. Prove '..Said' where nothing that the law and all that it calls make is longer than what came in: it says more and counts as full. Else prove '..UptoSaid'. A law counts once. -/
mutual
def uptoBulk {H : Type} : DataW H → Nat
  | .lit (.string bytes) => bytes.length + 1
  | .lit _ => 1
  | .nil => 1
  | .ptr d => uptoBulk d + 1
  | .slice elems spare => uptoBulkAll elems + uptoBulkAll spare + 1
  | .agg parts => uptoBulkAll parts + 1
  | .iface _ d => uptoBulk d + 1
  | .map entries => uptoBulkEntries entries + 1
  | .held _ => 1
def uptoBulkAll {H : Type} : List (DataW H) → Nat
  | [] => 0
  | d :: r => uptoBulk d + uptoBulkAll r
def uptoBulkEntries {H : Type} : List (Lit × DataW H) → Nat
  | [] => 0
  | x :: r => uptoBulkEntry x + uptoBulkEntries r
def uptoBulkEntry {H : Type} : Lit × DataW H → Nat
  | (.string bytes, d) => bytes.length + uptoBulk d + 1
  | (_, d) => uptoBulk d + 1
 end
def uptoSmall : (H : Type) → List (DataW H) → Bool := fun _ ds => decide (uptoBulkAll ds ≤ 1048576)
def OpenSpec.upto (s : _root_.Go.ChangeSpec) : _root_.Go.OpenSpec := { _root_.Go.OpenSpec.ofChange s with cond := some uptoSmall }

/-- 'phonographlaw10.VnetDrops', WHERE WHAT IT READS IS OF BULK AT MOST 1048576: true; the input reads as it did. -/
def vnetDropsUptoRow : OpenClaim := { program := "ytjmibgomkgkhnaagreat", sum := "66221887e95f6f828b44911ed5901eb63bee1ac2a0324fd5faa200db182b7883", func := "phonograph/phonographlaw10.VnetDrops", spec := "vnetDrops", unfollowed := true, recurses := true, apart := false, narrowed := true }
def VnetDropsUptoSaid : Prop := vnetDropsUptoRow.holds Tryz.pinned (OpenSpec.upto vnetDropsSpec)

/-- 'phonographlaw10.VnetCarries', WHERE WHAT IT READS IS OF BULK AT MOST 1048576: true; the input reads as it did. -/
def vnetCarriesUptoRow : OpenClaim := { program := "ytjmibgomkgkhnaagreat", sum := "66221887e95f6f828b44911ed5901eb63bee1ac2a0324fd5faa200db182b7883", func := "phonograph/phonographlaw10.VnetCarries", spec := "vnetCarries", unfollowed := true, recurses := true, apart := false, narrowed := true }
def VnetCarriesUptoSaid : Prop := vnetCarriesUptoRow.holds Tryz.pinned (OpenSpec.upto vnetCarriesSpec)

/-- 'phonographlaw09.VblkFour', WHERE WHAT IT READS IS OF BULK AT MOST 1048576: true; the input reads as it did. -/
def vblkFourUptoRow : OpenClaim := { program := "ytjmibgomkgkhnaagreat", sum := "66221887e95f6f828b44911ed5901eb63bee1ac2a0324fd5faa200db182b7883", func := "phonograph/phonographlaw09.VblkFour", spec := "vblkFour", unfollowed := true, recurses := true, apart := false, narrowed := true }
def VblkFourUptoSaid : Prop := vblkFourUptoRow.holds Tryz.pinned (OpenSpec.upto vblkFourSpec)

/-- 'phonographlaw09.VblkWrites', WHERE WHAT IT READS IS OF BULK AT MOST 1048576: true; the input reads as it did. -/
def vblkWritesUptoRow : OpenClaim := { program := "ytjmibgomkgkhnaagreat", sum := "66221887e95f6f828b44911ed5901eb63bee1ac2a0324fd5faa200db182b7883", func := "phonograph/phonographlaw09.VblkWrites", spec := "vblkWrites", unfollowed := true, recurses := true, apart := false, narrowed := true }
def VblkWritesUptoSaid : Prop := vblkWritesUptoRow.holds Tryz.pinned (OpenSpec.upto vblkWritesSpec)

end Rows
end Go.Proofs.YtjmibgomkgkhnaaGreat
