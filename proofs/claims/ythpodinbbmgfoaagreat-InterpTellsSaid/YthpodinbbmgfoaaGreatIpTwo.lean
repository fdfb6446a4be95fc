/-
  Which function value an instruction has.
-/
import Derived.Test.YthpodinbbmgfoaaGreatIpFun
set_option linter.unusedVariables false
set_option linter.unusedSimpArgs false
namespace Go.Proofs.YthpodinbbmgfoaaGreat
open Go.Proofs.Ip Go.Proofs.Pt Go.RowKit
theorem whole6 (w : World) : Calls Tryz.prog 24 #[.int .i64 6] w fun e w' => e = .returned (.func (.func 37) #[] #[]) ∧ w = w' := by
  go_enter Tryz.func24, Tryz.ntmps24
  go_wp2
  go_ret
  exact ⟨rfl, rfl⟩
theorem whole7 (w : World) : Calls Tryz.prog 24 #[.int .i64 7] w fun e w' => e = .returned (.func (.func 38) #[] #[]) ∧ w = w' := by
  go_enter Tryz.func24, Tryz.ntmps24
  go_wp2
  go_ret
  exact ⟨rfl, rfl⟩
theorem whole8 (w : World) : Calls Tryz.prog 24 #[.int .i64 8] w fun e w' => e = .returned (.func (.func 39) #[] #[]) ∧ w = w' := by
  go_enter Tryz.func24, Tryz.ntmps24
  go_wp2
  go_ret
  exact ⟨rfl, rfl⟩
theorem whole9 (w : World) : Calls Tryz.prog 24 #[.int .i64 9] w fun e w' => e = .returned (.func (.func 40) #[] #[]) ∧ w = w' := by
  go_enter Tryz.func24, Tryz.ntmps24
  go_wp2
  go_ret
  exact ⟨rfl, rfl⟩
theorem whole10 (w : World) : Calls Tryz.prog 24 #[.int .i64 10] w fun e w' => e = .returned (.func (.func 41) #[] #[]) ∧ w = w' := by
  go_enter Tryz.func24, Tryz.ntmps24
  go_wp2
  go_ret
  exact ⟨rfl, rfl⟩
theorem whole11 (w : World) : Calls Tryz.prog 24 #[.int .i64 11] w fun e w' => e = .returned (.func (.func 42) #[] #[]) ∧ w = w' := by
  go_enter Tryz.func24, Tryz.ntmps24
  go_wp2
  go_ret
  exact ⟨rfl, rfl⟩
theorem whole12 (w : World) : Calls Tryz.prog 24 #[.int .i64 12] w fun e w' => e = .returned (.func (.func 43) #[] #[]) ∧ w = w' := by
  go_enter Tryz.func24, Tryz.ntmps24
  go_wp2
  go_ret
  exact ⟨rfl, rfl⟩
theorem whole13 (w : World) : Calls Tryz.prog 24 #[.int .i64 13] w fun e w' => e = .returned (.func (.func 44) #[] #[]) ∧ w = w' := by
  go_enter Tryz.func24, Tryz.ntmps24
  go_wp2
  go_ret
  exact ⟨rfl, rfl⟩
theorem whole14 (w : World) : Calls Tryz.prog 24 #[.int .i64 14] w fun e w' => e = .returned (.func (.func 45) #[] #[]) ∧ w = w' := by
  go_enter Tryz.func24, Tryz.ntmps24
  go_wp2
  go_ret
  exact ⟨rfl, rfl⟩
theorem whole15 (w : World) : Calls Tryz.prog 24 #[.int .i64 15] w fun e w' => e = .returned (.func (.func 46) #[] #[]) ∧ w = w' := by
  go_enter Tryz.func24, Tryz.ntmps24
  go_wp2
  go_ret
  exact ⟨rfl, rfl⟩
theorem whole16 (w : World) : Calls Tryz.prog 24 #[.int .i64 16] w fun e w' => e = .returned (.func (.func 76) #[] #[.pointer (some ⟨w.heap.size, 0, none⟩)]) ∧ w' = w.alloc (.cells #[.func (.func 48) #[] #[]] 82) := by
  go_enter Tryz.func24, Tryz.ntmps24
  go_wp2_with (go_at_call 47; (refine (told_any _ _).mono ?_); rintro e w1 ⟨rfl, rfl⟩)
  go_ret
  exact ⟨rfl, rfl⟩
theorem whole17 (w : World) : Calls Tryz.prog 24 #[.int .i64 17] w fun e w' => e = .returned (.func (.func 76) #[] #[.pointer (some ⟨w.heap.size, 0, none⟩)]) ∧ w' = w.alloc (.cells #[.func (.func 49) #[] #[]] 82) := by
  go_enter Tryz.func24, Tryz.ntmps24
  go_wp2_with (go_at_call 47; (refine (told_any _ _).mono ?_); rintro e w1 ⟨rfl, rfl⟩)
  go_ret
  exact ⟨rfl, rfl⟩
theorem whole18 (w : World) : Calls Tryz.prog 24 #[.int .i64 18] w fun e w' => e = .returned (.func (.func 76) #[] #[.pointer (some ⟨w.heap.size, 0, none⟩)]) ∧ w' = w.alloc (.cells #[.func (.func 50) #[] #[]] 82) := by
  go_enter Tryz.func24, Tryz.ntmps24
  go_wp2_with (go_at_call 47; (refine (told_any _ _).mono ?_); rintro e w1 ⟨rfl, rfl⟩)
  go_ret
  exact ⟨rfl, rfl⟩
theorem whole_no (op : Int) (h6 : op ≠ 6) (h7 : op ≠ 7) (h8 : op ≠ 8) (h9 : op ≠ 9) (h10 : op ≠ 10) (h11 : op ≠ 11) (h12 : op ≠ 12) (h13 : op ≠ 13) (h14 : op ≠ 14) (h15 : op ≠ 15) (h16 : op ≠ 16) (h17 : op ≠ 17) (h18 : op ≠ 18) (w : World) : Calls Tryz.prog 24 #[.int .i64 op] w fun e w' => e = .returned .nilFunc ∧ w = w' := by
  replace h6 : (op == 6) = false := by rw [beq_eq_false_iff_ne]; exact h6
  replace h7 : (op == 7) = false := by rw [beq_eq_false_iff_ne]; exact h7
  replace h8 : (op == 8) = false := by rw [beq_eq_false_iff_ne]; exact h8
  replace h9 : (op == 9) = false := by rw [beq_eq_false_iff_ne]; exact h9
  replace h10 : (op == 10) = false := by rw [beq_eq_false_iff_ne]; exact h10
  replace h11 : (op == 11) = false := by rw [beq_eq_false_iff_ne]; exact h11
  replace h12 : (op == 12) = false := by rw [beq_eq_false_iff_ne]; exact h12
  replace h13 : (op == 13) = false := by rw [beq_eq_false_iff_ne]; exact h13
  replace h14 : (op == 14) = false := by rw [beq_eq_false_iff_ne]; exact h14
  replace h15 : (op == 15) = false := by rw [beq_eq_false_iff_ne]; exact h15
  replace h16 : (op == 16) = false := by rw [beq_eq_false_iff_ne]; exact h16
  replace h17 : (op == 17) = false := by rw [beq_eq_false_iff_ne]; exact h17
  replace h18 : (op == 18) = false := by rw [beq_eq_false_iff_ne]; exact h18
  go_enter Tryz.func24, Tryz.ntmps24
  go_wp2
  go_ret
  exact ⟨rfl, rfl⟩
theorem pointed26 (w : World) : Calls Tryz.prog 26 #[.int .i64 26] w fun e w' => e = .returned (.func (.func 56) #[] #[]) ∧ w = w' := by
  go_enter Tryz.func26, Tryz.ntmps26
  go_wp2
  go_ret
  exact ⟨rfl, rfl⟩
theorem pointed27 (w : World) : Calls Tryz.prog 26 #[.int .i64 27] w fun e w' => e = .returned (.func (.func 57) #[] #[]) ∧ w = w' := by
  go_enter Tryz.func26, Tryz.ntmps26
  go_wp2
  go_ret
  exact ⟨rfl, rfl⟩
theorem pointed28 (w : World) : Calls Tryz.prog 26 #[.int .i64 28] w fun e w' => e = .returned (.func (.func 58) #[] #[]) ∧ w = w' := by
  go_enter Tryz.func26, Tryz.ntmps26
  go_wp2
  go_ret
  exact ⟨rfl, rfl⟩
theorem pointed29 (w : World) : Calls Tryz.prog 26 #[.int .i64 29] w fun e w' => e = .returned (.func (.func 59) #[] #[]) ∧ w = w' := by
  go_enter Tryz.func26, Tryz.ntmps26
  go_wp2
  go_ret
  exact ⟨rfl, rfl⟩
theorem pointed30 (w : World) : Calls Tryz.prog 26 #[.int .i64 30] w fun e w' => e = .returned (.func (.func 60) #[] #[]) ∧ w = w' := by
  go_enter Tryz.func26, Tryz.ntmps26
  go_wp2
  go_ret
  exact ⟨rfl, rfl⟩
theorem pointed31 (w : World) : Calls Tryz.prog 26 #[.int .i64 31] w fun e w' => e = .returned (.func (.func 61) #[] #[]) ∧ w = w' := by
  go_enter Tryz.func26, Tryz.ntmps26
  go_wp2
  go_ret
  exact ⟨rfl, rfl⟩
theorem pointed32 (w : World) : Calls Tryz.prog 26 #[.int .i64 32] w fun e w' => e = .returned (.func (.func 76) #[] #[.pointer (some ⟨w.heap.size, 0, none⟩)]) ∧ w' = w.alloc (.cells #[.func (.func 62) #[] #[]] 82) := by
  go_enter Tryz.func26, Tryz.ntmps26
  go_wp2_with (go_at_call 47; (refine (told_any _ _).mono ?_); rintro e w1 ⟨rfl, rfl⟩)
  go_ret
  exact ⟨rfl, rfl⟩
theorem pointed33 (w : World) : Calls Tryz.prog 26 #[.int .i64 33] w fun e w' => e = .returned (.func (.func 76) #[] #[.pointer (some ⟨w.heap.size, 0, none⟩)]) ∧ w' = w.alloc (.cells #[.func (.func 63) #[] #[]] 82) := by
  go_enter Tryz.func26, Tryz.ntmps26
  go_wp2_with (go_at_call 47; (refine (told_any _ _).mono ?_); rintro e w1 ⟨rfl, rfl⟩)
  go_ret
  exact ⟨rfl, rfl⟩
theorem pointed_no (op : Int) (h26 : op ≠ 26) (h27 : op ≠ 27) (h28 : op ≠ 28) (h29 : op ≠ 29) (h30 : op ≠ 30) (h31 : op ≠ 31) (h32 : op ≠ 32) (h33 : op ≠ 33) (w : World) : Calls Tryz.prog 26 #[.int .i64 op] w fun e w' => e = .returned .nilFunc ∧ w = w' := by
  replace h26 : (op == 26) = false := by rw [beq_eq_false_iff_ne]; exact h26
  replace h27 : (op == 27) = false := by rw [beq_eq_false_iff_ne]; exact h27
  replace h28 : (op == 28) = false := by rw [beq_eq_false_iff_ne]; exact h28
  replace h29 : (op == 29) = false := by rw [beq_eq_false_iff_ne]; exact h29
  replace h30 : (op == 30) = false := by rw [beq_eq_false_iff_ne]; exact h30
  replace h31 : (op == 31) = false := by rw [beq_eq_false_iff_ne]; exact h31
  replace h32 : (op == 32) = false := by rw [beq_eq_false_iff_ne]; exact h32
  replace h33 : (op == 33) = false := by rw [beq_eq_false_iff_ne]; exact h33
  go_enter Tryz.func26, Tryz.ntmps26
  go_wp2
  go_ret
  exact ⟨rfl, rfl⟩
theorem single19 (w : World) : Calls Tryz.prog 25 #[.int .i64 19] w fun e w' => e = .returned (.func (.func 51) #[] #[]) ∧ w = w' := by
  go_enter Tryz.func25, Tryz.ntmps25
  go_wp2
  go_ret
  exact ⟨rfl, rfl⟩
theorem single34 (w : World) : Calls Tryz.prog 25 #[.int .i64 34] w fun e w' => e = .returned (.func (.func 53) #[] #[]) ∧ w = w' := by
  go_enter Tryz.func25, Tryz.ntmps25
  go_wp2
  go_ret
  exact ⟨rfl, rfl⟩
theorem single35 (w : World) : Calls Tryz.prog 25 #[.int .i64 35] w fun e w' => e = .returned (.func (.func 54) #[] #[]) ∧ w = w' := by
  go_enter Tryz.func25, Tryz.ntmps25
  go_wp2
  go_ret
  exact ⟨rfl, rfl⟩
theorem single36 (w : World) : Calls Tryz.prog 25 #[.int .i64 36] w fun e w' => e = .returned (.func (.func 55) #[] #[]) ∧ w = w' := by
  go_enter Tryz.func25, Tryz.ntmps25
  go_wp2
  go_ret
  exact ⟨rfl, rfl⟩
theorem single_no (op : Int) (h19 : op ≠ 19) (h34 : op ≠ 34) (h35 : op ≠ 35) (h36 : op ≠ 36) (w : World) : Calls Tryz.prog 25 #[.int .i64 op] w fun e w' => e = .returned .nilFunc ∧ w = w' := by
  replace h19 : (op == 19) = false := by rw [beq_eq_false_iff_ne]; exact h19
  replace h34 : (op == 34) = false := by rw [beq_eq_false_iff_ne]; exact h34
  replace h35 : (op == 35) = false := by rw [beq_eq_false_iff_ne]; exact h35
  replace h36 : (op == 36) = false := by rw [beq_eq_false_iff_ne]; exact h36
  go_enter Tryz.func25, Tryz.ntmps25
  go_wp2
  go_ret
  exact ⟨rfl, rfl⟩
end Go.Proofs.YthpodinbbmgfoaaGreat
