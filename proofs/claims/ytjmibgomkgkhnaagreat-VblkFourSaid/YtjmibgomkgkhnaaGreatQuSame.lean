/-
 The reference: two queues that are alike are the same.
-/
import Derived.Test.YtjmibgomkgkhnaaGreatQuPl
set_option linter.unusedVariables false
set_option linter.unusedSimpArgs false
namespace Go.Proofs.YtjmibgomkgkhnaaGreat
open Go.Proofs.Qu Go.Proofs.Nm Go.RowKit Go.Proofs
end Go.Proofs.YtjmibgomkgkhnaaGreat
