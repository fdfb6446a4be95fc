/-
  The walk of the statement PointSums: whatever the number, the call returns true.
-/
import Derived.Test.YthpodinbbmgfoaaPtHead
import Derived.RowKit3
set_option linter.unusedVariables false
namespace Go.Proofs.Ythpodinbbmgfoaa
open Go.Proofs.Pt Go.RowKit

theorem grown_drewN (w : World) (n : Nat) : Grown w (w.drewN n) := Grown.refl w

theorem cell_new (w : World) (cs : Array Value) (t : TypeId) (k : Nat) : (w.alloc (.cells cs t)).cell? ⟨w.heap.size, k, none⟩ = cs[k]? := by
  exact World.cell?_alloc_at _ _ _ _ rfl

theorem calls_same {P : Program} {f : FuncId} {args : Array Value} {w : World} {v : Value} (h : Calls P f args w fun e w' => e = .returned v ∧ w = w') : Calls P f args w fun e w' => e = .returned v ∧ w' = w :=
  h.mono fun _ _ ⟨a, b⟩ => ⟨a, b.symm⟩

/-- What an answer of words comes to, named. -/
theorem URes_to {v u : Nat} {w : World} {f : FuncId} {args : Array Value} (h : Calls Try.prog f args w (URes v w)) (e : v = u) : Calls Try.prog f args w (URes u w) := by rw [← e]; exact h

theorem Sums_nat (x : Nat) (hx : x < 18446744073709551616) (w : World) :
    Calls Try.prog 3 #[.int .u64 x] w fun e w' => e = .returned (.bool true) ∧ Grown w w' := by
  have one_lt : oneF < 18446744073709551616 := by decide
  have kClean : ∀ w, Calls Try.prog 18 #[.int .u64 x] w fun e w' => e = .returned (.int .u64 (clean x)) ∧ w = w' := fun w => Clean_any x hx w
  have kMul : ∀ w, Calls Try.prog 21 #[.int .u64 x, .int .u64 4607182418800017408] w (URes (clean x) w) := fun w => URes_to (Mul_any x oneF hx (by decide) w) (mul_one hx)
  have kMulm : ∀ w, Calls Try.prog 21 #[.int .u64 x, .int .u64 13830554455654793216] w (URes (negF x) w) := fun w => URes_to (Mul_any x (9223372036854775808 + oneF) hx (by decide) w) (mul_mone hx)
  have kDiv : ∀ w, Calls Try.prog 22 #[.int .u64 x, .int .u64 4607182418800017408] w (URes (clean x) w) := fun w => URes_to (Div_any x oneF hx (by decide) w) (div_one hx)
  have kAdd : ∀ w, Calls Try.prog 20 #[.int .u64 x, .int .u64 0] w (URes (opF .add x 0) w) := fun w => Add_any x 0 hx (by decide) w
  have kNeg : ∀ w, Calls Try.prog 23 #[.int .u64 x] w fun e w' => e = .returned (.int .u64 (negF x)) ∧ w = w' := fun w => Neg_any x hx w
  have kSub : ∀ w, Calls Try.prog 24 #[.int .u64 x, .int .u64 x] w (URes (opF .sub x x) w) := fun w => Sub_any x x hx hx w
  have kDivx : ∀ w, Calls Try.prog 22 #[.int .u64 x, .int .u64 x] w (URes (opF .quo x x) w) := fun w => Div_any x x hx hx w
  have hm := u64_mask (clean x) (clean_lt hx)
  change bits .andNot .u64 (clean x : Int) 9223372036854775808 = ((rung (clean x) : Nat) : Int) at hm
  generalize hneg : negF x = ng at *
  by_cases b : isBad x = true
  · rw [clean_of_bad b] at *
    rw [sub_bad (.inl b)] at kSub
    rw [div_bad (.inl b)] at kDivx
    rw [add_bad (.inl b)] at kAdd
    rw [show rung canon = 9221120237041090560 from by decide] at hm
    simp only [canon, Int.cast_ofNat_Int] at *
    clear hneg b hx
    go_enter Try.func3, Try.ntmps3
    go_wp2_with (first
      | (go_at_call 18; (with_reducible refine (kClean _).mono ?_); rintro e w' ⟨rfl, rfl⟩)
      | (go_at_call 19; (with_reducible refine (Nan_any _).mono ?_); rintro e w' ⟨rfl, rfl⟩; simp only [canon, Int.cast_ofNat_Int])
      | (go_at_call 20; (with_reducible refine (kAdd _).mono ?_); rintro e w' ⟨n, rfl, rfl⟩)
      | (go_at_call 21; (with_reducible refine (kMul _).mono ?_); rintro e w' ⟨n, rfl, rfl⟩)
      | (go_at_call 21; (with_reducible refine (kMulm _).mono ?_); rintro e w' ⟨n, rfl, rfl⟩)
      | (go_at_call 22; (with_reducible refine (kDiv _).mono ?_); rintro e w' ⟨n, rfl, rfl⟩)
      | (go_at_call 22; (with_reducible refine (kDivx _).mono ?_); rintro e w' ⟨n, rfl, rfl⟩)
      | (go_at_call 24; (with_reducible refine (kSub _).mono ?_); rintro e w' ⟨n, rfl, rfl⟩)
      | (go_at_call 23; (with_reducible refine (kNeg _).mono ?_); rintro e w' ⟨rfl, rfl⟩)
      | (go_at_call 25; (with_reducible refine (heads28 _).mono ?_); rintro e w' ⟨rfl, n, rfl⟩))
    all_goals (go_ret; exact ⟨rfl, grown_drewN _ _⟩)
  replace b := b_false b
  rw [clean_of_ok b] at *
  have f1 : ((x : Int) == 9221120237041090560) = false := by
    have := (isBad_not x).1 b
    rw [beq_eq_false_iff_ne]; unfold rung at this; omega
  rcases kinds x with f | i | b'
  · by_cases z : rung x = 0
    · rw [z] at hm
      rw [sub_self_fin (by omega)] at kSub
      rw [div_self_zero z] at kDivx
      generalize opF .add x 0 = r at *
      simp only [canon, Int.cast_ofNat_Int] at *
      clear hneg b hx f z
      go_enter Try.func3, Try.ntmps3
      go_wp2_with (first
        | (go_at_call 18; (with_reducible refine (kClean _).mono ?_); rintro e w' ⟨rfl, rfl⟩)
        | (go_at_call 19; (with_reducible refine (Nan_any _).mono ?_); rintro e w' ⟨rfl, rfl⟩; simp only [canon, Int.cast_ofNat_Int])
        | (go_at_call 20; (with_reducible refine (kAdd _).mono ?_); rintro e w' ⟨n, rfl, rfl⟩)
        | (go_at_call 21; (with_reducible refine (kMul _).mono ?_); rintro e w' ⟨n, rfl, rfl⟩)
        | (go_at_call 21; (with_reducible refine (kMulm _).mono ?_); rintro e w' ⟨n, rfl, rfl⟩)
        | (go_at_call 22; (with_reducible refine (kDiv _).mono ?_); rintro e w' ⟨n, rfl, rfl⟩)
        | (go_at_call 22; (with_reducible refine (kDivx _).mono ?_); rintro e w' ⟨n, rfl, rfl⟩)
        | (go_at_call 24; (with_reducible refine (kSub _).mono ?_); rintro e w' ⟨n, rfl, rfl⟩)
        | (go_at_call 23; (with_reducible refine (kNeg _).mono ?_); rintro e w' ⟨rfl, rfl⟩)
        | (go_at_call 25; (with_reducible refine (heads28 _).mono ?_); rintro e w' ⟨rfl, n, rfl⟩))
      all_goals (go_ret; exact ⟨rfl, grown_drewN _ _⟩)
    · have f2 : ((rung x : Int) == 9218868437227405312) = false := by rw [beq_eq_false_iff_ne]; omega
      have f3 : ((rung x : Int) == 0) = false := by rw [beq_eq_false_iff_ne]; omega
      rw [sub_self_fin f] at kSub
      rw [div_self_fin f z] at kDivx
      rw [add_zero hx z, clean_of_ok b] at kAdd
      simp only [oneF] at *
      clear hneg b hx f z
      go_enter Try.func3, Try.ntmps3
      go_wp2_with (first
        | (go_at_call 18; (with_reducible refine (kClean _).mono ?_); rintro e w' ⟨rfl, rfl⟩)
        | (go_at_call 19; (with_reducible refine (Nan_any _).mono ?_); rintro e w' ⟨rfl, rfl⟩; simp only [canon, Int.cast_ofNat_Int])
        | (go_at_call 20; (with_reducible refine (kAdd _).mono ?_); rintro e w' ⟨n, rfl, rfl⟩)
        | (go_at_call 21; (with_reducible refine (kMul _).mono ?_); rintro e w' ⟨n, rfl, rfl⟩)
        | (go_at_call 21; (with_reducible refine (kMulm _).mono ?_); rintro e w' ⟨n, rfl, rfl⟩)
        | (go_at_call 22; (with_reducible refine (kDiv _).mono ?_); rintro e w' ⟨n, rfl, rfl⟩)
        | (go_at_call 22; (with_reducible refine (kDivx _).mono ?_); rintro e w' ⟨n, rfl, rfl⟩)
        | (go_at_call 24; (with_reducible refine (kSub _).mono ?_); rintro e w' ⟨n, rfl, rfl⟩)
        | (go_at_call 23; (with_reducible refine (kNeg _).mono ?_); rintro e w' ⟨rfl, rfl⟩)
        | (go_at_call 25; (with_reducible refine (heads28 _).mono ?_); rintro e w' ⟨rfl, n, rfl⟩))
      all_goals (go_ret; exact ⟨rfl, grown_drewN _ _⟩)
  · rw [i] at hm
    rw [sub_self_bad (by omega)] at kSub
    rw [div_self_bad (by omega)] at kDivx
    rw [add_zero hx (by omega), clean_of_ok b] at kAdd
    simp only [canon, Int.cast_ofNat_Int] at *
    clear hneg b hx i
    go_enter Try.func3, Try.ntmps3
    go_wp2_with (first
      | (go_at_call 18; (with_reducible refine (kClean _).mono ?_); rintro e w' ⟨rfl, rfl⟩)
      | (go_at_call 19; (with_reducible refine (Nan_any _).mono ?_); rintro e w' ⟨rfl, rfl⟩; simp only [canon, Int.cast_ofNat_Int])
      | (go_at_call 20; (with_reducible refine (kAdd _).mono ?_); rintro e w' ⟨n, rfl, rfl⟩)
      | (go_at_call 21; (with_reducible refine (kMul _).mono ?_); rintro e w' ⟨n, rfl, rfl⟩)
      | (go_at_call 21; (with_reducible refine (kMulm _).mono ?_); rintro e w' ⟨n, rfl, rfl⟩)
      | (go_at_call 22; (with_reducible refine (kDiv _).mono ?_); rintro e w' ⟨n, rfl, rfl⟩)
      | (go_at_call 22; (with_reducible refine (kDivx _).mono ?_); rintro e w' ⟨n, rfl, rfl⟩)
      | (go_at_call 24; (with_reducible refine (kSub _).mono ?_); rintro e w' ⟨n, rfl, rfl⟩)
      | (go_at_call 23; (with_reducible refine (kNeg _).mono ?_); rintro e w' ⟨rfl, rfl⟩)
      | (go_at_call 25; (with_reducible refine (heads28 _).mono ?_); rintro e w' ⟨rfl, n, rfl⟩))
    all_goals (go_ret; exact ⟨rfl, grown_drewN _ _⟩)
  · rw [b] at b'; cases b'
/-- An integer argument of kind uint64, as a natural number. -/
theorem u64_nat {a : Int} (h : (Lit.int .u64 a).wf = true) : ∃ x : Nat, a = x ∧ x < 18446744073709551616 := by
  simp only [Lit.wf, Bool.and_eq_true, decide_eq_true_eq] at h
  have e1 : IntKind.u64.min = 0 := by decide
  have e2 : IntKind.u64.max = 18446744073709551615 := by decide
  rw [e1, e2] at h
  exact ⟨a.toNat, by omega, by omega⟩
theorem PointSums_walk (a0 : Int) (w0 : (Lit.int .u64 a0).wf = true) (w : World) :
    Calls Try.prog 3 #[.int .u64 a0] w fun e w' => e = .returned (.bool true) ∧ Grown w w' := by
  obtain ⟨x, rfl, hx⟩ := u64_nat w0
  exact Sums_nat x hx w
end Go.Proofs.Ythpodinbbmgfoaa
