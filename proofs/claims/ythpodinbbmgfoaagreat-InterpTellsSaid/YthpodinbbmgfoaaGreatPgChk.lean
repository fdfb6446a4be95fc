/-
  The walk of Check of package page.
-/
import Derived.Test.YthpodinbbmgfoaaGreatPgEq
set_option linter.unusedSimpArgs false
set_option linter.unusedVariables false
namespace Go.Proofs.YthpodinbbmgfoaaGreat
open Go.Proofs.Pg Go.RowKit

end Go.Proofs.YthpodinbbmgfoaaGreat
