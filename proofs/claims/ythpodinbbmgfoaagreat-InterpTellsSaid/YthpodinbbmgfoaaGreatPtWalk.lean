/-
  The walks of package point and of its reference: each function answers what the plain words say, whatever the two numbers.
-/
import Derived.Test.YthpodinbbmgfoaaGreatPtLaw4
import Derived.Test.YthpodinbbmgfoaaGreatProg
import Derived.Deep.QuietTactic
import Derived.BigQuiet
import Derived.Lib.Hide
set_option linter.unusedSimpArgs false
set_option linter.unusedVariables false
namespace Go.Proofs.YthpodinbbmgfoaaGreat
open Go.Proofs.Pt

theorem ret_b {a b : Bool} (h : a = b) : Ending.returned (.bool a) = .returned (.bool b) := by rw [h]
theorem ret_i {k : IntKind} {a b : Int} (h : a = b) : Ending.returned (.int k a) = .returned (.int k b) := by rw [h]
theorem ret_f {k : FloatKind} {a b : Nat} (h : a = b) : Ending.returned (.float k a) = .returned (.float k b) := by rw [h]
/-- What a function of words answers, the world but for draws as it was. -/
def URes (v : Nat) (w : World) (e : Ending) (w' : World) : Prop := ∃ n, e = .returned (.int .u64 v) ∧ w' = w.drewN n


theorem run_frombits (w : World) (n : Int) : (callFunc 79 #[.int .u64 n]).run Tryz.prog w = .ok (.value (.float .f64 n.toNat)) w := by
  rw [run_callFunc_extern (e := Extern.MathFloatBits.float64frombits) (fn := Tryz.f79) (by kernel_rfl) (by kernel_rfl) (by kernel_rfl) (by kernel_rfl) (by kernel_rfl)]
  rfl
theorem run_tobits (w : World) (n : Nat) : (callFunc 78 #[.float .f64 n]).run Tryz.prog w = .ok (.value (.int .u64 n)) w := by
  rw [run_callFunc_extern (e := Extern.MathFloatBits.float64bits) (fn := Tryz.f78) (by kernel_rfl) (by kernel_rfl) (by kernel_rfl) (by kernel_rfl) (by kernel_rfl)]
  rfl


theorem bad_any (x : Nat) (hx : x < 18446744073709551616) (w : World) :
    Calls Tryz.prog 80 #[.int .u64 x] w fun e w' => e = .returned (.bool (isBad x)) ∧ w = w' := by
  have hm := u64_mask x hx
  go_enter Tryz.func80, Tryz.ntmps80
  go_wp2
  go_ret
  exact ⟨ret_b (by unfold isBad; rw [decide_eq_decide]; omega), rfl⟩


theorem Clean_any (x : Nat) (hx : x < 18446744073709551616) (w : World) :
    Calls Tryz.prog 77 #[.int .u64 x] w fun e w' => e = .returned (.int .u64 (clean x)) ∧ w = w' := by
  by_cases h : isBad x = true
  all_goals
    go_enter Tryz.func77, Tryz.ntmps77
    go_wp2_with (go_at_call 80; refine (bad_any _ hx _).mono ?_; rintro e w' ⟨rfl, rfl⟩)
    go_ret
    exact ⟨ret_i (by simp [clean, h, canon]), rfl⟩


theorem Add1_any (x y : Nat) (w : World) :
    Calls Tryz.prog 82 #[.float .f64 x, .float .f64 y] w (FRes .add x y w) := by
  cases h : floatBits .add .f64 x y with
  | some r =>
    have hr := run_float_arith (P := Tryz.prog) w .add 97 .f64 x y r h
    go_enter Tryz.func82, Tryz.ntmps82
    go_wp2
    go_ret
    exact ⟨r, 0, rfl, rfl, floatBits_lt h, (opF_some h).symm⟩
  | none =>
    have hr := run_float_nan (P := Tryz.prog) w .add rfl 97 x y h
    obtain ⟨h1, h2⟩ := cut_bad x y (w.tape w.drawn (.nanBits .f64 x y))
    generalize (Question.nanBits .f64 x y).cut (w.tape w.drawn (.nanBits .f64 x y)) = v at *
    go_enter Tryz.func82, Tryz.ntmps82
    go_wp2
    go_ret
    exact ⟨v, 1, rfl, rfl, h2, by rw [opF_none h]; exact clean_of_bad h1⟩


theorem Sub1_any (x y : Nat) (w : World) :
    Calls Tryz.prog 83 #[.float .f64 x, .float .f64 y] w (FRes .sub x y w) := by
  cases h : floatBits .sub .f64 x y with
  | some r =>
    have hr := run_float_arith (P := Tryz.prog) w .sub 97 .f64 x y r h
    go_enter Tryz.func83, Tryz.ntmps83
    go_wp2
    go_ret
    exact ⟨r, 0, rfl, rfl, floatBits_lt h, (opF_some h).symm⟩
  | none =>
    have hr := run_float_nan (P := Tryz.prog) w .sub rfl 97 x y h
    obtain ⟨h1, h2⟩ := cut_bad x y (w.tape w.drawn (.nanBits .f64 x y))
    generalize (Question.nanBits .f64 x y).cut (w.tape w.drawn (.nanBits .f64 x y)) = v at *
    go_enter Tryz.func83, Tryz.ntmps83
    go_wp2
    go_ret
    exact ⟨v, 1, rfl, rfl, h2, by rw [opF_none h]; exact clean_of_bad h1⟩


theorem Mul1_any (x y : Nat) (w : World) :
    Calls Tryz.prog 84 #[.float .f64 x, .float .f64 y] w (FRes .mul x y w) := by
  cases h : floatBits .mul .f64 x y with
  | some r =>
    have hr := run_float_arith (P := Tryz.prog) w .mul 97 .f64 x y r h
    go_enter Tryz.func84, Tryz.ntmps84
    go_wp2
    go_ret
    exact ⟨r, 0, rfl, rfl, floatBits_lt h, (opF_some h).symm⟩
  | none =>
    have hr := run_float_nan (P := Tryz.prog) w .mul rfl 97 x y h
    obtain ⟨h1, h2⟩ := cut_bad x y (w.tape w.drawn (.nanBits .f64 x y))
    generalize (Question.nanBits .f64 x y).cut (w.tape w.drawn (.nanBits .f64 x y)) = v at *
    go_enter Tryz.func84, Tryz.ntmps84
    go_wp2
    go_ret
    exact ⟨v, 1, rfl, rfl, h2, by rw [opF_none h]; exact clean_of_bad h1⟩


theorem Div1_any (x y : Nat) (w : World) :
    Calls Tryz.prog 85 #[.float .f64 x, .float .f64 y] w (FRes .quo x y w) := by
  cases h : floatBits .quo .f64 x y with
  | some r =>
    have hr := run_float_arith (P := Tryz.prog) w .quo 97 .f64 x y r h
    go_enter Tryz.func85, Tryz.ntmps85
    go_wp2
    go_ret
    exact ⟨r, 0, rfl, rfl, floatBits_lt h, (opF_some h).symm⟩
  | none =>
    have hr := run_float_nan (P := Tryz.prog) w .quo rfl 97 x y h
    obtain ⟨h1, h2⟩ := cut_bad x y (w.tape w.drawn (.nanBits .f64 x y))
    generalize (Question.nanBits .f64 x y).cut (w.tape w.drawn (.nanBits .f64 x y)) = v at *
    go_enter Tryz.func85, Tryz.ntmps85
    go_wp2
    go_ret
    exact ⟨v, 1, rfl, rfl, h2, by rw [opF_none h]; exact clean_of_bad h1⟩


theorem both_Add (x y : Nat) (hx : x < 18446744073709551616) (hy : y < 18446744073709551616) (w : World) :
    Calls Tryz.prog 81 #[.int .u64 x, .int .u64 y, .func (.func 82) #[] #[]] w (URes (opF .add x y) w) := by
  have hr1 := run_frombits
  have hr2 := run_tobits
  go_enter Tryz.func81, Tryz.ntmps81
  go_wp2_with (first
    | (go_at_call 82; refine (Add1_any x y _).mono ?_; rintro e w' ⟨r, n, rfl, rfl, hr, hc⟩)
    | (go_at_call 77; refine (Clean_any r hr _).mono ?_; rintro e w' ⟨rfl, rfl⟩))
  go_ret
  exact ⟨n, rfl, rfl⟩
theorem Add_any (x y : Nat) (hx : x < 18446744073709551616) (hy : y < 18446744073709551616) (w : World) :
    Calls Tryz.prog 56 #[.int .u64 x, .int .u64 y] w (URes (opF .add x y) w) := by
  go_enter Tryz.func56, Tryz.ntmps56
  go_wp2_with (go_at_call 81; refine (both_Add x y hx hy _).mono ?_; rintro e w' ⟨n, rfl, rfl⟩)
  go_ret
  exact ⟨n, rfl, rfl⟩


theorem both_Sub (x y : Nat) (hx : x < 18446744073709551616) (hy : y < 18446744073709551616) (w : World) :
    Calls Tryz.prog 81 #[.int .u64 x, .int .u64 y, .func (.func 83) #[] #[]] w (URes (opF .sub x y) w) := by
  have hr1 := run_frombits
  have hr2 := run_tobits
  go_enter Tryz.func81, Tryz.ntmps81
  go_wp2_with (first
    | (go_at_call 83; refine (Sub1_any x y _).mono ?_; rintro e w' ⟨r, n, rfl, rfl, hr, hc⟩)
    | (go_at_call 77; refine (Clean_any r hr _).mono ?_; rintro e w' ⟨rfl, rfl⟩))
  go_ret
  exact ⟨n, rfl, rfl⟩
theorem Sub_any (x y : Nat) (hx : x < 18446744073709551616) (hy : y < 18446744073709551616) (w : World) :
    Calls Tryz.prog 57 #[.int .u64 x, .int .u64 y] w (URes (opF .sub x y) w) := by
  go_enter Tryz.func57, Tryz.ntmps57
  go_wp2_with (go_at_call 81; refine (both_Sub x y hx hy _).mono ?_; rintro e w' ⟨n, rfl, rfl⟩)
  go_ret
  exact ⟨n, rfl, rfl⟩


theorem both_Mul (x y : Nat) (hx : x < 18446744073709551616) (hy : y < 18446744073709551616) (w : World) :
    Calls Tryz.prog 81 #[.int .u64 x, .int .u64 y, .func (.func 84) #[] #[]] w (URes (opF .mul x y) w) := by
  have hr1 := run_frombits
  have hr2 := run_tobits
  go_enter Tryz.func81, Tryz.ntmps81
  go_wp2_with (first
    | (go_at_call 84; refine (Mul1_any x y _).mono ?_; rintro e w' ⟨r, n, rfl, rfl, hr, hc⟩)
    | (go_at_call 77; refine (Clean_any r hr _).mono ?_; rintro e w' ⟨rfl, rfl⟩))
  go_ret
  exact ⟨n, rfl, rfl⟩
theorem Mul_any (x y : Nat) (hx : x < 18446744073709551616) (hy : y < 18446744073709551616) (w : World) :
    Calls Tryz.prog 58 #[.int .u64 x, .int .u64 y] w (URes (opF .mul x y) w) := by
  go_enter Tryz.func58, Tryz.ntmps58
  go_wp2_with (go_at_call 81; refine (both_Mul x y hx hy _).mono ?_; rintro e w' ⟨n, rfl, rfl⟩)
  go_ret
  exact ⟨n, rfl, rfl⟩


theorem both_Div (x y : Nat) (hx : x < 18446744073709551616) (hy : y < 18446744073709551616) (w : World) :
    Calls Tryz.prog 81 #[.int .u64 x, .int .u64 y, .func (.func 85) #[] #[]] w (URes (opF .quo x y) w) := by
  have hr1 := run_frombits
  have hr2 := run_tobits
  go_enter Tryz.func81, Tryz.ntmps81
  go_wp2_with (first
    | (go_at_call 85; refine (Div1_any x y _).mono ?_; rintro e w' ⟨r, n, rfl, rfl, hr, hc⟩)
    | (go_at_call 77; refine (Clean_any r hr _).mono ?_; rintro e w' ⟨rfl, rfl⟩))
  go_ret
  exact ⟨n, rfl, rfl⟩
theorem Div_any (x y : Nat) (hx : x < 18446744073709551616) (hy : y < 18446744073709551616) (w : World) :
    Calls Tryz.prog 59 #[.int .u64 x, .int .u64 y] w (URes (opF .quo x y) w) := by
  go_enter Tryz.func59, Tryz.ntmps59
  go_wp2_with (go_at_call 81; refine (both_Div x y hx hy _).mono ?_; rintro e w' ⟨n, rfl, rfl⟩)
  go_ret
  exact ⟨n, rfl, rfl⟩


theorem Neg_any (x : Nat) (hx : x < 18446744073709551616) (w : World) :
    Calls Tryz.prog 53 #[.int .u64 x] w fun e w' => e = .returned (.int .u64 (negF x)) ∧ w = w' := by
  have hm := u64_xor_nat x 9223372036854775808 hx (by decide)
  simp only [Int.cast_ofNat_Int] at hm
  go_enter Tryz.func53, Tryz.ntmps53
  go_wp2_with (go_at_call 77; refine (Clean_any _ (xor_lt hx) _).mono ?_; rintro e w' ⟨rfl, rfl⟩)
  go_ret
  exact ⟨rfl, rfl⟩

theorem Less_any (x y : Nat) (hx : x < 18446744073709551616) (hy : y < 18446744073709551616) (w : World) :
    Calls Tryz.prog 62 #[.int .u64 x, .int .u64 y] w fun e w' => e = .returned (.bool (ltF x y)) ∧ w = w' := by
  have hr1 := run_frombits
  have hr2 := run_tobits
  go_enter Tryz.func62, Tryz.ntmps62
  go_wp2
  go_ret
  exact ⟨rfl, rfl⟩
theorem Equal_any (x y : Nat) (hx : x < 18446744073709551616) (hy : y < 18446744073709551616) (w : World) :
    Calls Tryz.prog 63 #[.int .u64 x, .int .u64 y] w fun e w' => e = .returned (.bool (eqF x y)) ∧ w = w' := by
  have hr1 := run_frombits
  have hr2 := run_tobits
  go_enter Tryz.func63, Tryz.ntmps63
  go_wp2
  go_ret
  exact ⟨rfl, rfl⟩
theorem FromInt_any (x : Nat) (hx : x < 18446744073709551616) (w : World) :
    Calls Tryz.prog 54 #[.int .u64 x] w fun e w' => e = .returned (.int .u64 (fromI (IntKind.i64.wrap x))) ∧ w = w' := by
  have hr1 := run_frombits
  have hr2 := run_tobits
  generalize hk : IntKind.i64.wrap (x : Int) = k
  go_enter Tryz.func54, Tryz.ntmps54
  go_wp2
  go_ret
  exact ⟨rfl, rfl⟩


theorem Min1_any (x y : Nat) (hx : x < 18446744073709551616) (hy : y < 18446744073709551616) (w : World) :
    Calls Tryz.prog 87 #[.int .u64 x, .int .u64 y] w fun e w' => e = .returned (.int .u64 (x ||| y : Nat)) ∧ w = w' := by
  have hm := u64_or_nat x y hx hy
  go_enter Tryz.func87, Tryz.ntmps87
  go_wp2
  go_ret
  exact ⟨rfl, rfl⟩
theorem Max1_any (x y : Nat) (hx : x < 18446744073709551616) (hy : y < 18446744073709551616) (w : World) :
    Calls Tryz.prog 88 #[.int .u64 x, .int .u64 y] w fun e w' => e = .returned (.bool (ltF y x)) ∧ w = w' := by
  go_enter Tryz.func88, Tryz.ntmps88
  go_wp2_with (go_at_call 62; refine (Less_any y x hy hx _).mono ?_; rintro e w' ⟨rfl, rfl⟩)
  go_ret
  exact ⟨rfl, rfl⟩
theorem Max2_any (x y : Nat) (hx : x < 18446744073709551616) (hy : y < 18446744073709551616) (w : World) :
    Calls Tryz.prog 89 #[.int .u64 x, .int .u64 y] w fun e w' => e = .returned (.int .u64 (x &&& y : Nat)) ∧ w = w' := by
  have hm := u64_and_nat x y hx hy
  go_enter Tryz.func89, Tryz.ntmps89
  go_wp2
  go_ret
  exact ⟨rfl, rfl⟩
/-- A test that is false, as a Bool's equation. -/
theorem b_false {b : Bool} (h : ¬ b = true) : b = false := by simpa using h


theorem chosen_Min (x y : Nat) (hx : x < 18446744073709551616) (hy : y < 18446744073709551616) (w : World) :
    Calls Tryz.prog 86 #[.int .u64 x, .int .u64 y, .func (.func 62) #[] #[], .func (.func 87) #[] #[]] w fun e w' => e = .returned (.int .u64 (minF x y)) ∧ w = w' := by
  by_cases b1 : isBad x = true <;> (try replace b1 := b_false b1) <;> by_cases b2 : isBad y = true <;> (try replace b2 := b_false b2) <;> by_cases l1 : ltF x y = true <;> (try replace l1 := b_false l1) <;> by_cases l2 : ltF y x = true <;> (try replace l2 := b_false l2)
  all_goals first
    | (rw [ltF_bad (.inl b1)] at l1; cases l1; done)
    | (rw [ltF_bad (.inr b2)] at l1; cases l1; done)
    | (rw [ltF_bad (.inr b1)] at l2; cases l2; done)
    | (rw [ltF_bad (.inl b2)] at l2; cases l2; done)
    | (rw [ltF_asymm l1] at l2; cases l2; done)
    | skip
  all_goals
    go_enter Tryz.func86, Tryz.ntmps86
    go_wp2_with (first
      | (go_at_call 80; refine (bad_any _ (by assumption) _).mono ?_; rintro e w' ⟨rfl, rfl⟩)
      | (go_at_call 62; refine (Less_any _ _ (by assumption) (by assumption) _).mono ?_; rintro e w' ⟨rfl, rfl⟩)
      | (go_at_call 87; refine (Min1_any _ _ (by assumption) (by assumption) _).mono ?_; rintro e w' ⟨rfl, rfl⟩))
    go_ret
    exact ⟨ret_i (by simp [minF, b1, b2, l1, l2, canon]), rfl⟩
theorem Min_any (x y : Nat) (hx : x < 18446744073709551616) (hy : y < 18446744073709551616) (w : World) :
    Calls Tryz.prog 60 #[.int .u64 x, .int .u64 y] w fun e w' => e = .returned (.int .u64 (minF x y)) ∧ w = w' := by
  go_enter Tryz.func60, Tryz.ntmps60
  go_wp2_with (go_at_call 86; refine (chosen_Min x y hx hy _).mono ?_; rintro e w' ⟨rfl, rfl⟩)
  go_ret
  exact ⟨rfl, rfl⟩


theorem chosen_Max (x y : Nat) (hx : x < 18446744073709551616) (hy : y < 18446744073709551616) (w : World) :
    Calls Tryz.prog 86 #[.int .u64 x, .int .u64 y, .func (.func 88) #[] #[], .func (.func 89) #[] #[]] w fun e w' => e = .returned (.int .u64 (maxF x y)) ∧ w = w' := by
  by_cases b1 : isBad x = true <;> (try replace b1 := b_false b1) <;> by_cases b2 : isBad y = true <;> (try replace b2 := b_false b2) <;> by_cases l1 : ltF x y = true <;> (try replace l1 := b_false l1) <;> by_cases l2 : ltF y x = true <;> (try replace l2 := b_false l2)
  all_goals first
    | (rw [ltF_bad (.inl b1)] at l1; cases l1; done)
    | (rw [ltF_bad (.inr b2)] at l1; cases l1; done)
    | (rw [ltF_bad (.inr b1)] at l2; cases l2; done)
    | (rw [ltF_bad (.inl b2)] at l2; cases l2; done)
    | (rw [ltF_asymm l1] at l2; cases l2; done)
    | skip
  all_goals
    go_enter Tryz.func86, Tryz.ntmps86
    go_wp2_with (first
      | (go_at_call 80; refine (bad_any _ (by assumption) _).mono ?_; rintro e w' ⟨rfl, rfl⟩)
      | (go_at_call 88; refine (Max1_any _ _ (by assumption) (by assumption) _).mono ?_; rintro e w' ⟨rfl, rfl⟩)
      | (go_at_call 89; refine (Max2_any _ _ (by assumption) (by assumption) _).mono ?_; rintro e w' ⟨rfl, rfl⟩))
    go_ret
    exact ⟨ret_i (by simp [maxF, b1, b2, l1, l2, canon]), rfl⟩
theorem Max_any (x y : Nat) (hx : x < 18446744073709551616) (hy : y < 18446744073709551616) (w : World) :
    Calls Tryz.prog 61 #[.int .u64 x, .int .u64 y] w fun e w' => e = .returned (.int .u64 (maxF x y)) ∧ w = w' := by
  go_enter Tryz.func61, Tryz.ntmps61
  go_wp2_with (go_at_call 86; refine (chosen_Max x y hx hy _).mono ?_; rintro e w' ⟨rfl, rfl⟩)
  go_ret
  exact ⟨rfl, rfl⟩


theorem ToInt_any (x : Nat) (hx : x < 18446744073709551616) (w : World) :
    Calls Tryz.prog 55 #[.int .u64 x] w fun e w' => e = .returned (.int .u64 (toW x)) ∧ w = w' := by
  have hr1 := run_frombits
  have hr2 := run_tobits
  by_cases b : isBad x = true
  · go_enter Tryz.func55, Tryz.ntmps55
    go_wp2_with (go_at_call 80; refine (bad_any _ (by assumption) _).mono ?_; rintro e w' ⟨rfl, rfl⟩)
    go_ret
    exact ⟨ret_i (by simp [toW, b]), rfl⟩
  replace b := b_false b
  have o1 : FloatKind.f64.format.order x 4890909195324358656 = some (compare (place x) lim) := order_ok b (by decide)
  have o2 : FloatKind.f64.format.order x 14114281232179134464 = some (compare (place x) (-lim)) := order_ok b (by decide)
  rcases Int.lt_trichotomy (place x) lim with h | h | h
  · rw [Int.compare_eq_lt.2 h] at o1
    by_cases h2 : place x < -lim
    · rw [Int.compare_eq_lt.2 h2] at o2
      go_enter Tryz.func55, Tryz.ntmps55
      go_wp2_with (go_at_call 80; refine (bad_any _ (by assumption) _).mono ?_; rintro e w' ⟨rfl, rfl⟩)
      go_ret
      exact ⟨ret_i (by rw [toW, b, if_neg (by simp), if_neg (by omega), if_pos h2]; rfl), rfl⟩
    · have hc := run_convert_float_int (P := Tryz.prog) w 97 2 .f64 .i64 x (trunc x) (by kernel_rfl) (by kernel_rfl) (f2i h (by omega))
      have o3 : (FloatKind.f64.format.order x 14114281232179134464 == some Ordering.lt) = false := by
        rw [o2]
        rcases Int.lt_trichotomy (place x) (-lim) with g | g | g
        · omega
        · rw [Int.compare_eq_eq.2 g]; rfl
        · rw [Int.compare_eq_gt.2 g]; rfl
      generalize hk : IntKind.u64.wrap (trunc x) = k
      clear o2
      have H := Lib.hid h; clear h
      have H2 := Lib.hid h2; clear h2
      go_enter Tryz.func55, Tryz.ntmps55
      go_wp2_with (go_at_call 80; refine (bad_any _ (by assumption) _).mono ?_; rintro e w' ⟨rfl, rfl⟩)
      go_ret
      exact ⟨ret_i (by rw [toW, b, if_neg (by simp), if_neg (by have := H.out; omega), if_neg (by have := H2.out; omega), ← hk, IntKind.wrap_u64]; unfold word64; omega), rfl⟩
  · rw [Int.compare_eq_eq.2 h] at o1
    go_enter Tryz.func55, Tryz.ntmps55
    go_wp2_with (go_at_call 80; refine (bad_any _ (by assumption) _).mono ?_; rintro e w' ⟨rfl, rfl⟩)
    go_ret
    exact ⟨ret_i (by rw [toW, b, if_neg (by simp), if_pos (by omega)]; rfl), rfl⟩
  · rw [Int.compare_eq_gt.2 h] at o1
    go_enter Tryz.func55, Tryz.ntmps55
    go_wp2_with (go_at_call 80; refine (bad_any _ (by assumption) _).mono ?_; rintro e w' ⟨rfl, rfl⟩)
    go_ret
    exact ⟨ret_i (by rw [toW, b, if_neg (by simp), if_pos (by omega)]; rfl), rfl⟩

end Go.Proofs.YthpodinbbmgfoaaGreat