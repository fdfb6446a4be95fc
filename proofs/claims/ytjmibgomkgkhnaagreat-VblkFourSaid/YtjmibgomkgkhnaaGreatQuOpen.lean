/-
 Numbers and used ones that come in as arguments.
-/
import Derived.Test.YtjmibgomkgkhnaaGreatOpen
import Derived.Test.YtjmibgomkgkhnaaGreatQuRV
set_option linter.unusedVariables false
set_option linter.unusedSimpArgs false
namespace Go.Proofs.Qu
open Go Go.RowKit Go.Proofs.Nm
end Go.Proofs.Qu
namespace Go.Proofs.YtjmibgomkgkhnaaGreat
open Go.Proofs.Qu Go.RowKit Go.ChangeShapes Go.WideShapes
section
variable {H : Type} {enc : TypeId × Value → H} {w : World} {base : Nat} {spare : Nat → Bool} {held : Bool}
end
end Go.Proofs.YtjmibgomkgkhnaaGreat
