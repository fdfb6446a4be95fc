/-
  The reference: two queues that are alike are the same.
-/
import Derived.Test.YtcelehhaggoijaaGreatQuPoll2
set_option linter.unusedVariables false
set_option linter.unusedSimpArgs false
namespace Go.Proofs.YtcelehhaggoijaaGreat
open Go.Proofs.Qu Go.Proofs.Nm Go.RowKit Go.Proofs
end Go.Proofs.YtcelehhaggoijaaGreat
