/-
  The walk of the statements' own examples of layer 28: they all hold.
-/
import Derived.Test.YthpodinbbmgfoaaPtWalk
set_option linter.unusedVariables false
namespace Go.Proofs.Ythpodinbbmgfoaa
open Go.Proofs.Pt

theorem hClean (w : World) : Calls Try.prog 18 #[.int .u64 9218868437227405313] w (fun e w' => e = .returned (.int .u64 9221120237041090560) ∧ w = w') := by
  have h := Clean_any 9218868437227405313 (by decide) w
  rw [show clean 9218868437227405313 = 9221120237041090560 from by decide +kernel] at h
  exact h
theorem hAdd (w : World) : Calls Try.prog 20 #[.int .u64 4607182418800017408, .int .u64 4607182418800017408] w (URes 4611686018427387904 w) := by
  have h := Add_any 4607182418800017408 4607182418800017408 (by decide) (by decide) w
  rw [show opF .add 4607182418800017408 4607182418800017408 = 4611686018427387904 from by decide +kernel] at h
  exact h
theorem hDiv (w : World) : Calls Try.prog 22 #[.int .u64 4607182418800017408, .int .u64 0] w (URes 9218868437227405312 w) := by
  have h := Div_any 4607182418800017408 0 (by decide) (by decide) w
  rw [show opF .quo 4607182418800017408 0 = 9218868437227405312 from by decide +kernel] at h
  exact h
theorem hDiv0 (w : World) : Calls Try.prog 22 #[.int .u64 0, .int .u64 0] w (URes 9221120237041090560 w) := by
  have h := Div_any 0 0 (by decide) (by decide) w
  rw [show opF .quo 0 0 = 9221120237041090560 from by decide +kernel] at h
  exact h
theorem hSub (w : World) : Calls Try.prog 24 #[.int .u64 9218868437227405312, .int .u64 9218868437227405312] w (URes 9221120237041090560 w) := by
  have h := Sub_any 9218868437227405312 9218868437227405312 (by decide) (by decide) w
  rw [show opF .sub 9218868437227405312 9218868437227405312 = 9221120237041090560 from by decide +kernel] at h
  exact h
theorem hMul (w : World) : Calls Try.prog 21 #[.int .u64 9223372036854775808, .int .u64 4607182418800017408] w (URes 9223372036854775808 w) := by
  have h := Mul_any 9223372036854775808 4607182418800017408 (by decide) (by decide) w
  rw [show opF .mul 9223372036854775808 4607182418800017408 = 9223372036854775808 from by decide +kernel] at h
  exact h
theorem hMin (w : World) : Calls Try.prog 32 #[.int .u64 0, .int .u64 9223372036854775808] w (fun e w' => e = .returned (.int .u64 9223372036854775808) ∧ w = w') := by
  have h := Min_any 0 9223372036854775808 (by decide) (by decide) w
  rw [show minF 0 9223372036854775808 = 9223372036854775808 from by decide +kernel] at h
  exact h
theorem hMax (w : World) : Calls Try.prog 34 #[.int .u64 0, .int .u64 9223372036854775808] w (fun e w' => e = .returned (.int .u64 0) ∧ w = w') := by
  have h := Max_any 0 9223372036854775808 (by decide) (by decide) w
  rw [show maxF 0 9223372036854775808 = 0 from by decide +kernel] at h
  exact h
theorem hLess (w : World) : Calls Try.prog 36 #[.int .u64 13830554455654793216, .int .u64 0] w (fun e w' => e = .returned (.bool true) ∧ w = w') := by
  have h := Less_any 13830554455654793216 0 (by decide) (by decide) w
  rw [show ltF 13830554455654793216 0 = true from by decide +kernel] at h
  exact h
theorem hLess0 (w : World) : Calls Try.prog 36 #[.int .u64 9223372036854775808, .int .u64 0] w (fun e w' => e = .returned (.bool false) ∧ w = w') := by
  have h := Less_any 9223372036854775808 0 (by decide) (by decide) w
  rw [show ltF 9223372036854775808 0 = false from by decide +kernel] at h
  exact h
theorem hEq (w : World) : Calls Try.prog 38 #[.int .u64 9223372036854775808, .int .u64 0] w (fun e w' => e = .returned (.bool true) ∧ w = w') := by
  have h := Equal_any 9223372036854775808 0 (by decide) (by decide) w
  rw [show eqF 9223372036854775808 0 = true from by decide +kernel] at h
  exact h
theorem hEqN (w : World) : Calls Try.prog 38 #[.int .u64 9221120237041090560, .int .u64 9221120237041090560] w (fun e w' => e = .returned (.bool false) ∧ w = w') := by
  have h := Equal_any 9221120237041090560 9221120237041090560 (by decide) (by decide) w
  rw [show eqF 9221120237041090560 9221120237041090560 = false from by decide +kernel] at h
  exact h
theorem hFrom (w : World) : Calls Try.prog 40 #[.int .u64 3] w (fun e w' => e = .returned (.int .u64 4613937818241073152) ∧ w = w') := by
  have h := FromInt_any 3 (by decide) w
  rw [show fromI (IntKind.i64.wrap ((3 : Nat) : Int)) = 4613937818241073152 from by decide +kernel] at h
  exact h
theorem hTo (w : World) : Calls Try.prog 42 #[.int .u64 4615063718147915776] w (fun e w' => e = .returned (.int .u64 3) ∧ w = w') := by
  have h := ToInt_any 4615063718147915776 (by decide) w
  rw [show toW 4615063718147915776 = 3 from by decide +kernel] at h
  exact h
theorem hTo2 (w : World) : Calls Try.prog 42 #[.int .u64 13838435755002691584] w (fun e w' => e = .returned (.int .u64 18446744073709551613) ∧ w = w') := by
  have h := ToInt_any 13838435755002691584 (by decide) w
  rw [show toW 13838435755002691584 = 18446744073709551613 from by decide +kernel] at h
  exact h
theorem hTo3 (w : World) : Calls Try.prog 42 #[.int .u64 9218868437227405312] w (fun e w' => e = .returned (.int .u64 9223372036854775807) ∧ w = w') := by
  have h := ToInt_any 9218868437227405312 (by decide) w
  rw [show toW 9218868437227405312 = 9223372036854775807 from by decide +kernel] at h
  exact h
theorem hNeg (w : World) : Calls Try.prog 23 #[.int .u64 4607182418800017408] w (fun e w' => e = .returned (.int .u64 13830554455654793216) ∧ w = w') := by
  have h := Neg_any 4607182418800017408 (by decide) w
  rw [show negF 4607182418800017408 = 13830554455654793216 from by decide +kernel] at h
  exact h

theorem heads28 (w : World) : Calls Try.prog 25 #[] w (fun e w' => e = .returned (.bool true) ∧ ∃ n, w' = w.drewN n) := by
  go_enter Try.func25, Try.ntmps25
  go_wp2_with fail; refine (Nan_any _).mono ?_; rintro e w' ⟨rfl, rfl⟩; unfold canon
  go_wp2_with fail; refine (hClean _).mono ?_; rintro e w' ⟨rfl, rfl⟩
  go_wp2_with fail; refine (Nan_any _).mono ?_; rintro e w' ⟨rfl, rfl⟩; unfold canon
  go_wp2_with fail; refine (hAdd _).mono ?_; rintro e w' ⟨n1, rfl, rfl⟩
  go_wp2_with fail; refine (hDiv _).mono ?_; rintro e w' ⟨n2, rfl, rfl⟩
  go_wp2_with fail; refine (hDiv0 _).mono ?_; rintro e w' ⟨n3, rfl, rfl⟩
  go_wp2_with fail; refine (Nan_any _).mono ?_; rintro e w' ⟨rfl, rfl⟩; unfold canon
  go_wp2_with fail; refine (hSub _).mono ?_; rintro e w' ⟨n4, rfl, rfl⟩
  go_wp2_with fail; refine (Nan_any _).mono ?_; rintro e w' ⟨rfl, rfl⟩; unfold canon
  go_wp2_with fail; refine (hMul _).mono ?_; rintro e w' ⟨n5, rfl, rfl⟩
  go_wp2_with fail; refine (hMin _).mono ?_; rintro e w' ⟨rfl, rfl⟩
  go_wp2_with fail; refine (hMax _).mono ?_; rintro e w' ⟨rfl, rfl⟩
  go_wp2_with fail; refine (hLess _).mono ?_; rintro e w' ⟨rfl, rfl⟩
  go_wp2_with fail; refine (hLess0 _).mono ?_; rintro e w' ⟨rfl, rfl⟩
  go_wp2_with fail; refine (hEq _).mono ?_; rintro e w' ⟨rfl, rfl⟩
  go_wp2_with fail; refine (Nan_any _).mono ?_; rintro e w' ⟨rfl, rfl⟩; unfold canon
  go_wp2_with fail; refine (Nan_any _).mono ?_; rintro e w' ⟨rfl, rfl⟩; unfold canon
  go_wp2_with fail; refine (hEqN _).mono ?_; rintro e w' ⟨rfl, rfl⟩
  go_wp2_with fail; refine (hFrom _).mono ?_; rintro e w' ⟨rfl, rfl⟩
  go_wp2_with fail; refine (hTo _).mono ?_; rintro e w' ⟨rfl, rfl⟩
  go_wp2_with fail; refine (hTo2 _).mono ?_; rintro e w' ⟨rfl, rfl⟩
  go_wp2_with fail; refine (hTo3 _).mono ?_; rintro e w' ⟨rfl, rfl⟩
  go_wp2_with fail; refine (hNeg _).mono ?_; rintro e w' ⟨rfl, rfl⟩
  go_wp2
  go_ret
  exact ⟨rfl, _, rfl⟩
end Go.Proofs.Ythpodinbbmgfoaa