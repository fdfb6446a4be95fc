/-
  The walk of the statement PointTells: whatever the two numbers, the call returns true.
-/
import Derived.Test.YthpodinbbmgfoaaPtSums
import Derived.Test.YthpodinbbmgfoaaPtRef
set_option linter.unusedVariables false
namespace Go.Proofs.Ythpodinbbmgfoaa
open Go.Proofs.Pt Go.RowKit

set_option maxHeartbeats 2000000 in
theorem Tells28_nat (x y : Nat) (hx : x < 18446744073709551616) (hy : y < 18446744073709551616) (w : World) :
    Calls Try.prog 4 #[.int .u64 x, .int .u64 y] w fun e w' => e = .returned (.bool true) ∧ Grown w w' := by
  go_enter Try.func4, Try.ntmps4
  go_wp2_with fail; refine (Clean_any x hx _).mono ?_; rintro e w' ⟨rfl, rfl⟩
  go_wp2_with fail; refine (RClean_any x hx _).mono ?_; rintro e w' ⟨rfl, rfl⟩
  go_wp2_with fail; refine (Add_any x y hx hy _).mono ?_; rintro e w' ⟨n1, rfl, rfl⟩
  go_wp2_with fail; refine (RAdd_any x y _).mono ?_; rintro e w' ⟨n2, rfl, rfl⟩
  go_wp2_with fail; refine (Sub_any x y hx hy _).mono ?_; rintro e w' ⟨n3, rfl, rfl⟩
  go_wp2_with fail; refine (RSub_any x y _).mono ?_; rintro e w' ⟨n4, rfl, rfl⟩
  go_wp2_with fail; refine (Mul_any x y hx hy _).mono ?_; rintro e w' ⟨n5, rfl, rfl⟩
  go_wp2_with fail; refine (RMul_any x y _).mono ?_; rintro e w' ⟨n6, rfl, rfl⟩
  go_wp2_with fail; refine (Div_any x y hx hy _).mono ?_; rintro e w' ⟨n7, rfl, rfl⟩
  go_wp2_with fail; refine (RDiv_any x y _).mono ?_; rintro e w' ⟨n8, rfl, rfl⟩
  go_wp2_with fail; refine (Neg_any x hx _).mono ?_; rintro e w' ⟨rfl, rfl⟩
  go_wp2_with fail; refine (RNeg_any x hx _).mono ?_; rintro e w' ⟨rfl, rfl⟩
  go_wp2_with fail; refine (Min_any x y hx hy _).mono ?_; rintro e w' ⟨rfl, rfl⟩
  go_wp2_with fail; refine (RMin_any x y hx hy _).mono ?_; rintro e w' ⟨rfl, rfl⟩
  go_wp2_with fail; refine (Max_any x y hx hy _).mono ?_; rintro e w' ⟨rfl, rfl⟩
  go_wp2_with fail; refine (RMax_any x y hx hy _).mono ?_; rintro e w' ⟨rfl, rfl⟩
  go_wp2_with fail; refine (Less_any x y hx hy _).mono ?_; rintro e w' ⟨rfl, rfl⟩
  go_wp2_with fail; refine (RLess_any x y hx hy _).mono ?_; rintro e w' ⟨rfl, rfl⟩
  go_wp2_with fail; refine (Equal_any x y hx hy _).mono ?_; rintro e w' ⟨rfl, rfl⟩
  go_wp2_with fail; refine (REqual_any x y hx hy _).mono ?_; rintro e w' ⟨rfl, rfl⟩
  go_wp2_with fail; refine (FromInt_any x hx _).mono ?_; rintro e w' ⟨rfl, rfl⟩
  go_wp2_with fail; refine (RFromInt_any x _).mono ?_; rintro e w' ⟨rfl, rfl⟩
  go_wp2_with fail; refine (ToInt_any x hx _).mono ?_; rintro e w' ⟨rfl, rfl⟩
  go_wp2_with fail; refine (RToInt_any x hx _).mono ?_; rintro e w' ⟨rfl, rfl⟩
  go_wp2_with fail; refine (heads28 _).mono ?_; rintro e w' ⟨rfl, n, rfl⟩
  go_wp2
  go_ret
  exact ⟨rfl, grown_drewN _ _⟩
theorem PointTells_walk (a0 a1 : Int) (w0 : (Lit.int .u64 a0).wf = true) (w1 : (Lit.int .u64 a1).wf = true) (w : World) :
    Calls Try.prog 4 #[.int .u64 a0, .int .u64 a1] w fun e w' => e = .returned (.bool true) ∧ Grown w w' := by
  obtain ⟨x, rfl, hx⟩ := u64_nat w0
  obtain ⟨y, rfl, hy⟩ := u64_nat w1
  exact Tells28_nat x y hx hy w
end Go.Proofs.Ythpodinbbmgfoaa
