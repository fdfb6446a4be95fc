/-
  The reference: two queues that are alike are the same.
-/
import Derived.Test.YtcelehhaggoijaaQuPl
set_option linter.unusedVariables false
set_option linter.unusedSimpArgs false
namespace Go.Proofs.Ytcelehhaggoijaa
open Go.Proofs.Qu Go.Proofs.Nm Go.RowKit Go.Proofs
end Go.Proofs.Ytcelehhaggoijaa
