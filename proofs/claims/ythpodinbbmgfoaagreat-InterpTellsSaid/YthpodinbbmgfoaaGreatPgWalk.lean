/-
  The walks of package page.
-/
import Derived.Test.YthpodinbbmgfoaaGreatPgBase
import Derived.Test.YthpodinbbmgfoaaGreatProg
set_option linter.unusedSimpArgs false
set_option linter.unusedVariables false
namespace Go.Proofs.YthpodinbbmgfoaaGreat
open Go.Proofs.Pg Go.RowKit

theorem infoP : (Tryz.prog.info? 31).map (·.size) = some 9 := by kernel_rfl
theorem infoPs : (Tryz.prog.info? 32).map (·.size) = some 144 := by kernel_rfl

theorem zeroPs : Tryz.zeroCells32 = pg noBusy noWords := by kernel_rfl

/-- The result's reading: a whole row of pages. -/
theorem read_pg (w : World) (B : Nat) (b : Nat → Bool) (q : Nat → Nat → Nat) (h : w.rowD B = pg b q) : (loadVar 32 ⟨B, 0, none⟩).run Tryz.prog w = .ok (.agg (pg b q)) w := by
  have hl := run_loadVar_any (P := Tryz.prog) w B 0 32 144 _ Tryz.underlying32 rfl infoPs (by decide) (by rw [h, size_pg]; omega)
  rw [h, extract_all _ (size_pg _ _)] at hl
  exact hl

end Go.Proofs.YthpodinbbmgfoaaGreat
