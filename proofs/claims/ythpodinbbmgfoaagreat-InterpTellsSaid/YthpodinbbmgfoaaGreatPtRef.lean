/-
  The walks of the reference of package point: each function answers what the plain words say, whatever the two numbers.
-/
import Derived.Test.YthpodinbbmgfoaaGreatPtWalk
set_option linter.unusedSimpArgs false
set_option linter.unusedVariables false
namespace Go.Proofs.YthpodinbbmgfoaaGreat
open Go.Proofs.Pt


theorem Rnan_any (x : Nat) (hx : x < 18446744073709551616) (w : World) :
    Calls Tryz.prog 91 #[.int .u64 x] w fun e w' => e = .returned (.bool (isBad x)) ∧ w = w' := by
  have hm := u64_mask x hx
  go_enter Tryz.func91, Tryz.ntmps91
  go_wp2
  go_ret
  exact ⟨ret_b (by unfold isBad; rw [decide_eq_decide]; omega), rfl⟩


theorem RClean_any (x : Nat) (hx : x < 18446744073709551616) (w : World) :
    Calls Tryz.prog 104 #[.int .u64 x] w fun e w' => e = .returned (.int .u64 (clean x)) ∧ w = w' := by
  by_cases h : isBad x = true
  all_goals
    go_enter Tryz.func104, Tryz.ntmps104
    go_wp2_with (go_at_call 91; refine (Rnan_any _ hx _).mono ?_; rintro e w' ⟨rfl, rfl⟩)
    go_ret
    exact ⟨ret_i (by simp [clean, h, canon]), rfl⟩


theorem Rof_any (x : Nat) (w : World) :
    Calls Tryz.prog 102 #[.int .u64 x] w fun e w' => e = .returned (.float .f64 x) ∧ w = w' := by
  have hr1 := run_frombits
  have hr2 := run_tobits
  go_enter Tryz.func102, Tryz.ntmps102
  go_wp2
  go_ret
  exact ⟨rfl, rfl⟩
theorem Rback_any (r : Nat) (hr : r < 18446744073709551616) (w : World) :
    Calls Tryz.prog 101 #[.float .f64 r] w fun e w' => e = .returned (.int .u64 (clean r)) ∧ w = w' := by
  have hr1 := run_frombits
  have hr2 := run_tobits
  go_enter Tryz.func101, Tryz.ntmps101
  go_wp2_with (go_at_call 104; refine (RClean_any _ hr _).mono ?_; rintro e w' ⟨rfl, rfl⟩)
  go_ret
  exact ⟨rfl, rfl⟩


theorem RAdd_any (x y : Nat) (w : World) :
    Calls Tryz.prog 92 #[.int .u64 x, .int .u64 y] w (URes (opF .add x y) w) := by
  cases h : floatBits .add .f64 x y with
  | some r =>
    have hr := run_float_arith (P := Tryz.prog) w .add 97 .f64 x y r h
    have hb := floatBits_lt h
    go_enter Tryz.func92, Tryz.ntmps92
    go_wp2_with (first
      | (go_at_call 102; refine (Rof_any _ _).mono ?_; rintro e w' ⟨rfl, rfl⟩)
      | (go_at_call 101; refine (Rback_any _ hb _).mono ?_; rintro e w' ⟨rfl, rfl⟩))
    go_ret
    exact ⟨0, ret_i (by rw [opF_some h]), rfl⟩
  | none =>
    have hr := run_float_nan (P := Tryz.prog) w .add rfl 97 x y h
    obtain ⟨h1, h2⟩ := cut_bad x y (w.tape w.drawn (.nanBits .f64 x y))
    generalize (Question.nanBits .f64 x y).cut (w.tape w.drawn (.nanBits .f64 x y)) = v at *
    go_enter Tryz.func92, Tryz.ntmps92
    go_wp2_with (first
      | (go_at_call 102; refine (Rof_any _ _).mono ?_; rintro e w' ⟨rfl, rfl⟩)
      | (go_at_call 101; refine (Rback_any _ h2 _).mono ?_; rintro e w' ⟨rfl, rfl⟩))
    go_ret
    exact ⟨1, ret_i (by rw [opF_none h, clean_of_bad h1]), rfl⟩


theorem RSub_any (x y : Nat) (w : World) :
    Calls Tryz.prog 93 #[.int .u64 x, .int .u64 y] w (URes (opF .sub x y) w) := by
  cases h : floatBits .sub .f64 x y with
  | some r =>
    have hr := run_float_arith (P := Tryz.prog) w .sub 97 .f64 x y r h
    have hb := floatBits_lt h
    go_enter Tryz.func93, Tryz.ntmps93
    go_wp2_with (first
      | (go_at_call 102; refine (Rof_any _ _).mono ?_; rintro e w' ⟨rfl, rfl⟩)
      | (go_at_call 101; refine (Rback_any _ hb _).mono ?_; rintro e w' ⟨rfl, rfl⟩))
    go_ret
    exact ⟨0, ret_i (by rw [opF_some h]), rfl⟩
  | none =>
    have hr := run_float_nan (P := Tryz.prog) w .sub rfl 97 x y h
    obtain ⟨h1, h2⟩ := cut_bad x y (w.tape w.drawn (.nanBits .f64 x y))
    generalize (Question.nanBits .f64 x y).cut (w.tape w.drawn (.nanBits .f64 x y)) = v at *
    go_enter Tryz.func93, Tryz.ntmps93
    go_wp2_with (first
      | (go_at_call 102; refine (Rof_any _ _).mono ?_; rintro e w' ⟨rfl, rfl⟩)
      | (go_at_call 101; refine (Rback_any _ h2 _).mono ?_; rintro e w' ⟨rfl, rfl⟩))
    go_ret
    exact ⟨1, ret_i (by rw [opF_none h, clean_of_bad h1]), rfl⟩


theorem RMul_any (x y : Nat) (w : World) :
    Calls Tryz.prog 94 #[.int .u64 x, .int .u64 y] w (URes (opF .mul x y) w) := by
  cases h : floatBits .mul .f64 x y with
  | some r =>
    have hr := run_float_arith (P := Tryz.prog) w .mul 97 .f64 x y r h
    have hb := floatBits_lt h
    go_enter Tryz.func94, Tryz.ntmps94
    go_wp2_with (first
      | (go_at_call 102; refine (Rof_any _ _).mono ?_; rintro e w' ⟨rfl, rfl⟩)
      | (go_at_call 101; refine (Rback_any _ hb _).mono ?_; rintro e w' ⟨rfl, rfl⟩))
    go_ret
    exact ⟨0, ret_i (by rw [opF_some h]), rfl⟩
  | none =>
    have hr := run_float_nan (P := Tryz.prog) w .mul rfl 97 x y h
    obtain ⟨h1, h2⟩ := cut_bad x y (w.tape w.drawn (.nanBits .f64 x y))
    generalize (Question.nanBits .f64 x y).cut (w.tape w.drawn (.nanBits .f64 x y)) = v at *
    go_enter Tryz.func94, Tryz.ntmps94
    go_wp2_with (first
      | (go_at_call 102; refine (Rof_any _ _).mono ?_; rintro e w' ⟨rfl, rfl⟩)
      | (go_at_call 101; refine (Rback_any _ h2 _).mono ?_; rintro e w' ⟨rfl, rfl⟩))
    go_ret
    exact ⟨1, ret_i (by rw [opF_none h, clean_of_bad h1]), rfl⟩


theorem RDiv_any (x y : Nat) (w : World) :
    Calls Tryz.prog 95 #[.int .u64 x, .int .u64 y] w (URes (opF .quo x y) w) := by
  cases h : floatBits .quo .f64 x y with
  | some r =>
    have hr := run_float_arith (P := Tryz.prog) w .quo 97 .f64 x y r h
    have hb := floatBits_lt h
    go_enter Tryz.func95, Tryz.ntmps95
    go_wp2_with (first
      | (go_at_call 102; refine (Rof_any _ _).mono ?_; rintro e w' ⟨rfl, rfl⟩)
      | (go_at_call 101; refine (Rback_any _ hb _).mono ?_; rintro e w' ⟨rfl, rfl⟩))
    go_ret
    exact ⟨0, ret_i (by rw [opF_some h]), rfl⟩
  | none =>
    have hr := run_float_nan (P := Tryz.prog) w .quo rfl 97 x y h
    obtain ⟨h1, h2⟩ := cut_bad x y (w.tape w.drawn (.nanBits .f64 x y))
    generalize (Question.nanBits .f64 x y).cut (w.tape w.drawn (.nanBits .f64 x y)) = v at *
    go_enter Tryz.func95, Tryz.ntmps95
    go_wp2_with (first
      | (go_at_call 102; refine (Rof_any _ _).mono ?_; rintro e w' ⟨rfl, rfl⟩)
      | (go_at_call 101; refine (Rback_any _ h2 _).mono ?_; rintro e w' ⟨rfl, rfl⟩))
    go_ret
    exact ⟨1, ret_i (by rw [opF_none h, clean_of_bad h1]), rfl⟩


theorem RNeg_any (x : Nat) (hx : x < 18446744073709551616) (w : World) :
    Calls Tryz.prog 70 #[.int .u64 x] w fun e w' => e = .returned (.int .u64 (negF x)) ∧ w = w' := by
  have hm := u64_xor_nat x 9223372036854775808 hx (by decide)
  simp only [Int.cast_ofNat_Int] at hm
  by_cases b : isBad x = true
  · go_enter Tryz.func70, Tryz.ntmps70
    go_wp2_with (go_at_call 91; refine (Rnan_any _ hx _).mono ?_; rintro e w' ⟨rfl, rfl⟩)
    go_ret
    exact ⟨ret_i (by rw [negF_bad b]; rfl), rfl⟩
  · replace b := b_false b
    go_enter Tryz.func70, Tryz.ntmps70
    go_wp2_with (go_at_call 91; refine (Rnan_any _ hx _).mono ?_; rintro e w' ⟨rfl, rfl⟩)
    go_ret
    exact ⟨ret_i (by rw [negF_ok b]), rfl⟩
theorem Rplace_any (x : Nat) (hx : x < 18446744073709551616) (w : World) :
    Calls Tryz.prog 103 #[.int .u64 x] w fun e w' => e = .returned (.int .i64 (place x)) ∧ w = w' := by
  have hm := u64_mask x hx
  have ha := and_sign x hx
  have hr := rung_lt x
  change bits .andNot .u64 (x : Int) 9223372036854775808 = ((rung x : Nat) : Int) at hm
  cases hs : minus x
  · rw [hs] at ha
    have hlt := minus_lt hx hs
    go_enter Tryz.func103, Tryz.ntmps103
    go_wp2
    go_ret
    exact ⟨ret_i (by unfold place rung; rw [hs]; simp; omega), rfl⟩
  · rw [hs] at ha
    go_enter Tryz.func103, Tryz.ntmps103
    go_wp2
    go_ret
    exact ⟨ret_i (by unfold place; rw [hs]; rfl), rfl⟩


theorem RLess_any (x y : Nat) (hx : x < 18446744073709551616) (hy : y < 18446744073709551616) (w : World) :
    Calls Tryz.prog 98 #[.int .u64 x, .int .u64 y] w fun e w' => e = .returned (.bool (ltF x y)) ∧ w = w' := by
  by_cases b1 : isBad x = true <;> (try replace b1 := b_false b1) <;> by_cases b2 : isBad y = true <;> (try replace b2 := b_false b2)
  all_goals
    go_enter Tryz.func98, Tryz.ntmps98
    go_wp2_with (first
      | (go_at_call 91; refine (Rnan_any _ (by assumption) _).mono ?_; rintro e w' ⟨rfl, rfl⟩)
      | (go_at_call 103; refine (Rplace_any _ (by assumption) _).mono ?_; rintro e w' ⟨rfl, rfl⟩))
    go_ret
    exact ⟨ret_b (by first | rw [ltF_bad (.inl b1)] | rw [ltF_bad (.inr b2)] | (rw [ltF_ok b1 b2]; try rfl)), rfl⟩


theorem REqual_any (x y : Nat) (hx : x < 18446744073709551616) (hy : y < 18446744073709551616) (w : World) :
    Calls Tryz.prog 99 #[.int .u64 x, .int .u64 y] w fun e w' => e = .returned (.bool (eqF x y)) ∧ w = w' := by
  by_cases b1 : isBad x = true <;> (try replace b1 := b_false b1) <;> by_cases b2 : isBad y = true <;> (try replace b2 := b_false b2)
  all_goals
    go_enter Tryz.func99, Tryz.ntmps99
    go_wp2_with (first
      | (go_at_call 91; refine (Rnan_any _ (by assumption) _).mono ?_; rintro e w' ⟨rfl, rfl⟩)
      | (go_at_call 103; refine (Rplace_any _ (by assumption) _).mono ?_; rintro e w' ⟨rfl, rfl⟩))
    go_ret
    exact ⟨ret_b (by first | rw [eqF_bad (.inl b1)] | rw [eqF_bad (.inr b2)] | (rw [eqF_ok b1 b2]; try rfl)), rfl⟩


theorem RMin_any (x y : Nat) (hx : x < 18446744073709551616) (hy : y < 18446744073709551616) (w : World) :
    Calls Tryz.prog 96 #[.int .u64 x, .int .u64 y] w fun e w' => e = .returned (.int .u64 (minF x y)) ∧ w = w' := by
  have hm := u64_or_nat x y hx hy
  by_cases b1 : isBad x = true <;> (try replace b1 := b_false b1) <;> by_cases b2 : isBad y = true <;> (try replace b2 := b_false b2) <;> by_cases l1 : ltF x y = true <;> (try replace l1 := b_false l1) <;> by_cases l2 : ltF y x = true <;> (try replace l2 := b_false l2)
  all_goals first
    | (rw [ltF_bad (.inl b1)] at l1; cases l1; done)
    | (rw [ltF_bad (.inr b2)] at l1; cases l1; done)
    | (rw [ltF_bad (.inr b1)] at l2; cases l2; done)
    | (rw [ltF_bad (.inl b2)] at l2; cases l2; done)
    | (rw [ltF_asymm l1] at l2; cases l2; done)
    | skip
  all_goals
    go_enter Tryz.func96, Tryz.ntmps96
    go_wp2_with (first
      | (go_at_call 91; refine (Rnan_any _ (by assumption) _).mono ?_; rintro e w' ⟨rfl, rfl⟩)
      | (go_at_call 98; refine (RLess_any _ _ (by assumption) (by assumption) _).mono ?_; rintro e w' ⟨rfl, rfl⟩))
    go_ret
    exact ⟨ret_i (by simp [minF, b1, b2, l1, l2, canon]), rfl⟩


theorem RMax_any (x y : Nat) (hx : x < 18446744073709551616) (hy : y < 18446744073709551616) (w : World) :
    Calls Tryz.prog 97 #[.int .u64 x, .int .u64 y] w fun e w' => e = .returned (.int .u64 (maxF x y)) ∧ w = w' := by
  have hm := u64_and_nat x y hx hy
  by_cases b1 : isBad x = true <;> (try replace b1 := b_false b1) <;> by_cases b2 : isBad y = true <;> (try replace b2 := b_false b2) <;> by_cases l1 : ltF x y = true <;> (try replace l1 := b_false l1) <;> by_cases l2 : ltF y x = true <;> (try replace l2 := b_false l2)
  all_goals first
    | (rw [ltF_bad (.inl b1)] at l1; cases l1; done)
    | (rw [ltF_bad (.inr b2)] at l1; cases l1; done)
    | (rw [ltF_bad (.inr b1)] at l2; cases l2; done)
    | (rw [ltF_bad (.inl b2)] at l2; cases l2; done)
    | (rw [ltF_asymm l1] at l2; cases l2; done)
    | skip
  all_goals
    go_enter Tryz.func97, Tryz.ntmps97
    go_wp2_with (first
      | (go_at_call 91; refine (Rnan_any _ (by assumption) _).mono ?_; rintro e w' ⟨rfl, rfl⟩)
      | (go_at_call 98; refine (RLess_any _ _ (by assumption) (by assumption) _).mono ?_; rintro e w' ⟨rfl, rfl⟩))
    go_ret
    exact ⟨ret_i (by simp [maxF, b1, b2, l1, l2, canon]), rfl⟩


theorem RFromInt_any (x : Nat) (w : World) :
    Calls Tryz.prog 71 #[.int .u64 x] w fun e w' => e = .returned (.int .u64 (fromI (IntKind.i64.wrap x))) ∧ w = w' := by
  have hr1 := run_frombits
  have hr2 := run_tobits
  generalize hk : IntKind.i64.wrap (x : Int) = k
  go_enter Tryz.func71, Tryz.ntmps71
  go_wp2
  go_ret
  exact ⟨rfl, rfl⟩
theorem RToInt_bad (x : Nat) (hx : x < 18446744073709551616) (b : isBad x = true) (w : World) :
    Calls Tryz.prog 72 #[.int .u64 x] w fun e w' => e = .returned (.int .u64 (toW x)) ∧ w = w' := by
  have ha := and_sign x hx
  have h1 := bits_ex x hx
  have h2 := bits_m1 x hx
  have h3 := bits_m2 x
  have h4 := ex_le x
  cases hm : minus x
  all_goals
    (try simp only [hm, Bool.false_eq_true, if_true, if_false] at ha)
    clear hm
    go_enter Tryz.func72, Tryz.ntmps72
    go_wp2_with (go_at_call 91; refine (Rnan_any _ hx _).mono ?_; rintro e w' ⟨rfl, rfl⟩)
    go_ret
    exact ⟨ret_i (by rw [toW, b]; rfl), rfl⟩
set_option maxRecDepth 20000 in
set_option maxHeartbeats 2000000 in
theorem RToInt_ok (x : Nat) (hx : x < 18446744073709551616) (b : isBad x = false) (w : World) :
    Calls Tryz.prog 72 #[.int .u64 x] w fun e w' => e = .returned (.int .u64 (toW x)) ∧ w = w' := by
  have ha := and_sign x hx
  have h1 := bits_ex x hx
  have h2 := bits_m1 x hx
  have h3 := bits_m2 x
  have h4 := ex_le x
  have h5 := mant_lt x
  by_cases e1 : ex x < 1023 <;> by_cases e2 : 1086 ≤ ex x <;> by_cases e3 : 1075 ≤ ex x <;> cases hm : minus x
  all_goals first
    | (exfalso; omega)
    | skip
  all_goals
    have d1 : decide ((ex x : Int) < 1023) = decide (ex x < 1023) := by rw [decide_eq_decide]; omega
    (try simp only [hm, Bool.false_eq_true, if_true, if_false] at ha)
    simp only [e1, decide_true, decide_false] at d1
    have HM := Lib.hid hm; clear hm
    go_enter Tryz.func72, Tryz.ntmps72
    go_wp2_with (go_at_call 91; refine (Rnan_any _ hx _).mono ?_; rintro e w' ⟨rfl, rfl⟩)
    go_ret
    refine ⟨ret_i ?_, rfl⟩
    rw [toW_ref, refTo, b]
    simp only [e1, e2, HM.out, Bool.false_or, decide_true, decide_false, if_true, if_false, Bool.false_eq_true]
    first | done | rfl | exact hi_ref e3 e2 | exact lo_ref e3 | (rw [hi_ref e3 e2, wrap_word]; done) | (rw [lo_ref e3, wrap_word]; done)
theorem RToInt_any (x : Nat) (hx : x < 18446744073709551616) (w : World) :
    Calls Tryz.prog 72 #[.int .u64 x] w fun e w' => e = .returned (.int .u64 (toW x)) ∧ w = w' := by
  by_cases b : isBad x = true
  · exact RToInt_bad x hx b w
  · exact RToInt_ok x hx (b_false b) w

end Go.Proofs.YthpodinbbmgfoaaGreat