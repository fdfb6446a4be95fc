/-
  What two words, or one, come to: the function values of interp.
-/
import Derived.Test.YthpodinbbmgfoaaGreatIpBase
import Derived.Test.YthpodinbbmgfoaaGreatPtWalk
import Derived.Laws.Bits64b
set_option linter.unusedVariables false
set_option linter.unusedSimpArgs false
namespace Go.Proofs.Ip
open Go
theorem shl_u64 (x y : Nat) : IntKind.u64.wrap ((x : Int) * 2 ^ min y 64) = ((x * 2 ^ y % 18446744073709551616 : Nat) : Int) := by
  rw [IntKind.wrap_u64, Int.natCast_emod, Int.natCast_mul, Int.natCast_pow]
  have e : ((2 : Nat) : Int) = 2 := rfl
  rw [e]
  by_cases h : y ≤ 64
  · rw [Nat.min_eq_left h]; rfl
  · obtain ⟨d, rfl⟩ : ∃ d, y = 64 + d := ⟨y - 64, by omega⟩
    rw [Nat.min_eq_right (by omega), Int.pow_add, ← Int.mul_assoc]
    have h64 : (2 : Int) ^ 64 = 18446744073709551616 := by decide
    rw [h64, Int.mul_emod_left, Int.mul_right_comm]
    exact (Int.mul_emod_left _ _).symm
theorem shr_u64 {x : Nat} (hx : x < 18446744073709551616) (y : Nat) : (x : Int) / 2 ^ min y 64 = ((x / 2 ^ y : Nat) : Int) := by
  have hp : ∀ k : Nat, (2 : Int) ^ k = ((2 ^ k : Nat) : Int) := fun k => by rw [Int.natCast_pow]; rfl
  rw [hp, ← Int.natCast_ediv]
  by_cases h : y ≤ 64
  · rw [Nat.min_eq_left h]
  · have h64 : (2 : Nat) ^ 64 = 18446744073709551616 := by decide
    have h2 : (2 : Nat) ^ 64 ≤ 2 ^ y := Nat.pow_le_pow_right (by omega) (by omega)
    rw [Nat.min_eq_right (by omega), Nat.div_eq_of_lt (by omega), Nat.div_eq_of_lt (by omega)]
/-- 1 of what holds, else 0. -/
def bit (b : Bool) : Nat := cond b 1 0
end Go.Proofs.Ip
namespace Go.Proofs.YthpodinbbmgfoaaGreat
open Go.Proofs.Ip Go.Proofs.Pt Go.RowKit
theorem ret_u {a b : Int} (h : a = b) : Ending.returned (.int .u64 a) = .returned (.int .u64 b) := by rw [h]
theorem WAdd_any (x y : Nat) (hx : x < 18446744073709551616) (hy : y < 18446744073709551616) (w : World) : Calls Tryz.prog 37 #[.int .u64 x, .int .u64 y] w fun e w' => e = .returned (.int .u64 (((x + y) % 18446744073709551616 : Nat) : Int)) ∧ w = w' := by
  go_enter Tryz.func37, Tryz.ntmps37
  go_wp2
  go_ret
  refine ⟨ret_u ?_, rfl⟩
  rw [IntKind.wrap_u64]; omega
theorem WSub_any (x y : Nat) (hx : x < 18446744073709551616) (hy : y < 18446744073709551616) (w : World) : Calls Tryz.prog 38 #[.int .u64 x, .int .u64 y] w fun e w' => e = .returned (.int .u64 (((x + (18446744073709551616 - y)) % 18446744073709551616 : Nat) : Int)) ∧ w = w' := by
  go_enter Tryz.func38, Tryz.ntmps38
  go_wp2
  go_ret
  refine ⟨ret_u ?_, rfl⟩
  rw [IntKind.wrap_u64]; omega
theorem WMul_any (x y : Nat) (hx : x < 18446744073709551616) (hy : y < 18446744073709551616) (w : World) : Calls Tryz.prog 39 #[.int .u64 x, .int .u64 y] w fun e w' => e = .returned (.int .u64 ((x * y % 18446744073709551616 : Nat) : Int)) ∧ w = w' := by
  go_enter Tryz.func39, Tryz.ntmps39
  go_wp2
  go_ret
  refine ⟨ret_u ?_, rfl⟩
  rw [IntKind.wrap_u64, Int.natCast_emod, Int.natCast_mul]; rfl
theorem WDiv_any (x y : Nat) (hx : x < 18446744073709551616) (hy : y < 18446744073709551616) (h0 : y ≠ 0) (w : World) : Calls Tryz.prog 40 #[.int .u64 x, .int .u64 y] w fun e w' => e = .returned (.int .u64 ((x / y : Nat) : Int)) ∧ w = w' := by
  have h0i : ¬ (y : Int) = 0 := by omega
  have h0b : ((y : Int) == 0) = false := by rw [beq_eq_false_iff_ne]; omega
  go_enter Tryz.func40, Tryz.ntmps40
  go_wp2
  go_ret
  refine ⟨ret_u ?_, rfl⟩
  have h := Nat.div_le_self x y
  rw [← Int.natCast_ediv, IntKind.wrap_u64]
  generalize x / y = z at *
  omega
theorem WMod_any (x y : Nat) (hx : x < 18446744073709551616) (hy : y < 18446744073709551616) (h0 : y ≠ 0) (w : World) : Calls Tryz.prog 41 #[.int .u64 x, .int .u64 y] w fun e w' => e = .returned (.int .u64 ((x % y : Nat) : Int)) ∧ w = w' := by
  have h0i : ¬ (y : Int) = 0 := by omega
  have h0b : ((y : Int) == 0) = false := by rw [beq_eq_false_iff_ne]; omega
  go_enter Tryz.func41, Tryz.ntmps41
  go_wp2
  go_ret
  refine ⟨ret_u ?_, rfl⟩
  exact (Int.natCast_emod x y).symm
theorem WAnd_any (x y : Nat) (hx : x < 18446744073709551616) (hy : y < 18446744073709551616) (w : World) : Calls Tryz.prog 42 #[.int .u64 x, .int .u64 y] w fun e w' => e = .returned (.int .u64 ((x &&& y : Nat) : Int)) ∧ w = w' := by
  go_enter Tryz.func42, Tryz.ntmps42
  go_wp2
  go_ret
  refine ⟨ret_u ?_, rfl⟩
  exact bits_and_u64_nat x y hx hy
theorem WOr_any (x y : Nat) (hx : x < 18446744073709551616) (hy : y < 18446744073709551616) (w : World) : Calls Tryz.prog 43 #[.int .u64 x, .int .u64 y] w fun e w' => e = .returned (.int .u64 ((x ||| y : Nat) : Int)) ∧ w = w' := by
  go_enter Tryz.func43, Tryz.ntmps43
  go_wp2
  go_ret
  refine ⟨ret_u ?_, rfl⟩
  exact bits_or_u64_nat x y hx hy
theorem WXor_any (x y : Nat) (hx : x < 18446744073709551616) (hy : y < 18446744073709551616) (w : World) : Calls Tryz.prog 44 #[.int .u64 x, .int .u64 y] w fun e w' => e = .returned (.int .u64 ((x ^^^ y : Nat) : Int)) ∧ w = w' := by
  go_enter Tryz.func44, Tryz.ntmps44
  go_wp2
  go_ret
  refine ⟨ret_u ?_, rfl⟩
  exact bits_xor_u64_nat x y hx hy
theorem WShl_any (x y : Nat) (hx : x < 18446744073709551616) (hy : y < 18446744073709551616) (w : World) : Calls Tryz.prog 45 #[.int .u64 x, .int .u64 y] w fun e w' => e = .returned (.int .u64 ((x * 2 ^ y % 18446744073709551616 : Nat) : Int)) ∧ w = w' := by
  go_enter Tryz.func45, Tryz.ntmps45
  go_wp2
  go_ret
  refine ⟨ret_u ?_, rfl⟩
  exact shl_u64 x y
theorem WShr_any (x y : Nat) (hx : x < 18446744073709551616) (hy : y < 18446744073709551616) (w : World) : Calls Tryz.prog 46 #[.int .u64 x, .int .u64 y] w fun e w' => e = .returned (.int .u64 ((x / 2 ^ y : Nat) : Int)) ∧ w = w' := by
  go_enter Tryz.func46, Tryz.ntmps46
  go_wp2
  go_ret
  refine ⟨ret_u ?_, rfl⟩
  exact shr_u64 hx y
theorem truth_any (b : Bool) (w : World) : Calls Tryz.prog 52 #[.bool b] w fun e w' => e = .returned (.int .u64 (bit b : Nat)) ∧ w = w' := by
  cases b with
  | true =>
    go_enter Tryz.func52, Tryz.ntmps52
    go_wp2
    go_ret
    exact ⟨rfl, rfl⟩
  | false =>
    go_enter Tryz.func52, Tryz.ntmps52
    go_wp2
    go_ret
    exact ⟨rfl, rfl⟩
theorem ret_bl {a b : Bool} (h : a = b) : Ending.returned (.bool a) = .returned (.bool b) := by rw [h]
theorem WEq_any (x y : Nat) (w : World) : Calls Tryz.prog 48 #[.int .u64 x, .int .u64 y] w fun e w' => e = .returned (.bool (decide (x = y))) ∧ w = w' := by
  go_enter Tryz.func48, Tryz.ntmps48
  go_wp2
  go_ret
  refine ⟨ret_bl ?_, rfl⟩
  rw [Bool.eq_iff_iff]; simp [Int.ofNat_inj]
theorem WLess_any (x y : Nat) (w : World) : Calls Tryz.prog 49 #[.int .u64 x, .int .u64 y] w fun e w' => e = .returned (.bool (decide (x < y))) ∧ w = w' := by
  go_enter Tryz.func49, Tryz.ntmps49
  go_wp2
  go_ret
  refine ⟨ret_bl ?_, rfl⟩
  first | (rw [Bool.eq_iff_iff]; simp; done) | rw [Bool.eq_iff_iff]
theorem WBelow_any (x y : Nat) (w : World) : Calls Tryz.prog 50 #[.int .u64 x, .int .u64 y] w fun e w' => e = .returned (.bool (decide (wrap64 (x : Int) < wrap64 (y : Int)))) ∧ w = w' := by
  go_enter Tryz.func50, Tryz.ntmps50
  go_wp2
  go_ret
  refine ⟨ret_bl ?_, rfl⟩
  rfl
theorem SNot_any (x : Nat) (w : World) : Calls Tryz.prog 51 #[.int .u64 x] w fun e w' => e = .returned (.int .u64 (bit (decide (x = 0)) : Nat)) ∧ w = w' := by
  have hb : ((x : Int) == 0) = decide (x = 0) := by rw [Bool.eq_iff_iff]; simp
  go_enter Tryz.func51, Tryz.ntmps51
  go_wp2_with (go_at_call 52; (refine (truth_any _ _).mono ?_); rintro e w1 ⟨rfl, rfl⟩)
  go_ret
  exact ⟨rfl, rfl⟩
theorem told_any (f : FuncId) (w : World) : Calls Tryz.prog 47 #[.func (.func f) #[] #[]] w fun e w' => e = .returned (.func (.func 76) #[] #[.pointer (some ⟨w.heap.size, 0, none⟩)]) ∧ w' = w.alloc (.cells #[.func (.func f) #[] #[]] 82) := by
  go_enter Tryz.func47, Tryz.ntmps47
  go_wp2
  go_ret
  exact ⟨rfl, rfl⟩
theorem ToldEq_any (x y : Nat) (hx : x < 18446744073709551616) (hy : y < 18446744073709551616) (b : Nat) (w : World) (hc : w.cell? ⟨b, 0, none⟩ = some (.func (.func 48) #[] #[])) : Calls Tryz.prog 76 #[.int .u64 x, .int .u64 y, .pointer (some ⟨b, 0, none⟩)] w fun e w' => e = .returned (.int .u64 (bit (decide (x = y)) : Nat)) ∧ w = w' := by
  go_enter Tryz.func76, Tryz.ntmps76
  go_wp2_with (first
    | (go_at_call 48; (refine (WEq_any x y _).mono ?_); rintro e w1 ⟨rfl, rfl⟩)
    | (go_at_call 52; (refine (truth_any _ _).mono ?_); rintro e w1 ⟨rfl, rfl⟩))
  go_ret
  exact ⟨rfl, rfl⟩
theorem ToldLess_any (x y : Nat) (hx : x < 18446744073709551616) (hy : y < 18446744073709551616) (b : Nat) (w : World) (hc : w.cell? ⟨b, 0, none⟩ = some (.func (.func 49) #[] #[])) : Calls Tryz.prog 76 #[.int .u64 x, .int .u64 y, .pointer (some ⟨b, 0, none⟩)] w fun e w' => e = .returned (.int .u64 (bit (decide (x < y)) : Nat)) ∧ w = w' := by
  go_enter Tryz.func76, Tryz.ntmps76
  go_wp2_with (first
    | (go_at_call 49; (refine (WLess_any x y _).mono ?_); rintro e w1 ⟨rfl, rfl⟩)
    | (go_at_call 52; (refine (truth_any _ _).mono ?_); rintro e w1 ⟨rfl, rfl⟩))
  go_ret
  exact ⟨rfl, rfl⟩
theorem ToldBelow_any (x y : Nat) (hx : x < 18446744073709551616) (hy : y < 18446744073709551616) (b : Nat) (w : World) (hc : w.cell? ⟨b, 0, none⟩ = some (.func (.func 50) #[] #[])) : Calls Tryz.prog 76 #[.int .u64 x, .int .u64 y, .pointer (some ⟨b, 0, none⟩)] w fun e w' => e = .returned (.int .u64 (bit (decide (wrap64 (x : Int) < wrap64 (y : Int))) : Nat)) ∧ w = w' := by
  go_enter Tryz.func76, Tryz.ntmps76
  go_wp2_with (first
    | (go_at_call 50; (refine (WBelow_any x y _).mono ?_); rintro e w1 ⟨rfl, rfl⟩)
    | (go_at_call 52; (refine (truth_any _ _).mono ?_); rintro e w1 ⟨rfl, rfl⟩))
  go_ret
  exact ⟨rfl, rfl⟩
theorem ToldFLess_any (x y : Nat) (hx : x < 18446744073709551616) (hy : y < 18446744073709551616) (b : Nat) (w : World) (hc : w.cell? ⟨b, 0, none⟩ = some (.func (.func 62) #[] #[])) : Calls Tryz.prog 76 #[.int .u64 x, .int .u64 y, .pointer (some ⟨b, 0, none⟩)] w fun e w' => e = .returned (.int .u64 (bit (ltF x y) : Nat)) ∧ w = w' := by
  go_enter Tryz.func76, Tryz.ntmps76
  go_wp2_with (first
    | (go_at_call 62; (refine (Less_any x y hx hy _).mono ?_); rintro e w1 ⟨rfl, rfl⟩)
    | (go_at_call 52; (refine (truth_any _ _).mono ?_); rintro e w1 ⟨rfl, rfl⟩))
  go_ret
  exact ⟨rfl, rfl⟩
theorem ToldFEq_any (x y : Nat) (hx : x < 18446744073709551616) (hy : y < 18446744073709551616) (b : Nat) (w : World) (hc : w.cell? ⟨b, 0, none⟩ = some (.func (.func 63) #[] #[])) : Calls Tryz.prog 76 #[.int .u64 x, .int .u64 y, .pointer (some ⟨b, 0, none⟩)] w fun e w' => e = .returned (.int .u64 (bit (eqF x y) : Nat)) ∧ w = w' := by
  go_enter Tryz.func76, Tryz.ntmps76
  go_wp2_with (first
    | (go_at_call 63; (refine (Equal_any x y hx hy _).mono ?_); rintro e w1 ⟨rfl, rfl⟩)
    | (go_at_call 52; (refine (truth_any _ _).mono ?_); rintro e w1 ⟨rfl, rfl⟩))
  go_ret
  exact ⟨rfl, rfl⟩
end Go.Proofs.YthpodinbbmgfoaaGreat
