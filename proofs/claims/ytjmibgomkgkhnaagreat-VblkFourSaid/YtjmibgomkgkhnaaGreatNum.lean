/-
 The walks of num's functions on bytes.
-/
import Derived.Test.YtjmibgomkgkhnaaGreatNumBase
import Derived.Test.YtjmibgomkgkhnaaGreatAnyR
import Derived.Test.YtjmibgomkgkhnaaGreatOwn
import Derived.Test.YtjmibgomkgkhnaaGreatProg
set_option maxRecDepth 100000
set_option maxHeartbeats 1000000
set_option linter.unusedSimpArgs false
set_option linter.unusedVariables false
namespace Go.Proofs.YtjmibgomkgkhnaaGreat
open Go.Proofs.Nm Go.RowKit
theorem infoU8 : (Tryz.prog.info? 5).map (·.size) = some 1 := by kernel_rfl
theorem Le1_any (i : Nat) (w : World) : Calls Tryz.prog 140 #[.int .i64 i] w fun e w' => e = .returned (.int .i64 i) ∧ w = w' := by
 go_enter Tryz.func140, Tryz.ntmps140
 go_wp2
 go_ret
 exact ⟨rfl, rfl⟩
end Go.Proofs.YtjmibgomkgkhnaaGreat
