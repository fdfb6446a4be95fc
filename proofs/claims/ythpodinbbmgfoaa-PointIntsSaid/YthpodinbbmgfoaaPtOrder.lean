/-
  The walk of the statement PointOrder: whatever the three numbers, the call returns true.
-/
import Derived.Test.YthpodinbbmgfoaaPtClean
set_option linter.unusedVariables false
namespace Go.Proofs.Pt
theorem eqF_self (x : Nat) : eqF x x = !isBad x := by
  by_cases b : isBad x = true
  · rw [eqF_bad (.inl b), b]; rfl
  · have b' : isBad x = false := by simpa using b
    rw [eqF_ok b' b', b']; simp
theorem ltF_trans {x y z : Nat} (h1 : ltF x y = true) (h2 : ltF y z = true) : ltF x z = true := by
  obtain ⟨a, b⟩ := ltF_good h1
  obtain ⟨_, c⟩ := ltF_good h2
  rw [ltF_ok a b] at h1
  rw [ltF_ok b c] at h2
  rw [ltF_ok a c]
  simp only [decide_eq_true_eq] at *
  omega
/-- Three ways two numbers may stand. -/
theorem ways3 {x y : Nat} (hx : isBad x = false) (hy : isBad y = false) :
    (ltF x y = true ∧ ltF y x = false ∧ eqF x y = false) ∨ (ltF x y = false ∧ ltF y x = true ∧ eqF x y = false) ∨ (ltF x y = false ∧ ltF y x = false ∧ eqF x y = true) := by
  rw [ltF_ok hx hy, ltF_ok hy hx, eqF_ok hx hy]
  rcases Int.lt_trichotomy (place x) (place y) with h | h | h
  · left; simp; omega
  · right; right; simp; omega
  · right; left; simp; omega
theorem self_lt (x : Nat) : ltF x x = false := by
  by_cases b : isBad x = true
  · exact ltF_bad (.inl b)
  · have b' : isBad x = false := by simpa using b
    rw [ltF_ok b' b']; simp
theorem min_max_lt {x y : Nat} (h : ltF x y = true) : minF x y = x ∧ maxF x y = y := by
  obtain ⟨a, b⟩ := ltF_good h
  have := ltF_asymm h
  unfold minF maxF; simp [a, b, h, this]
theorem min_max_gt {x y : Nat} (h : ltF y x = true) : minF x y = y ∧ maxF x y = x := by
  obtain ⟨a, b⟩ := ltF_good h
  have := ltF_asymm h
  unfold minF maxF; simp [a, b, h, this]
/-- Two numbers that are one: the same bits, or both are a nought. -/
theorem eq_bits {x y : Nat} (hx : x < 18446744073709551616) (hy : y < 18446744073709551616) (bx : isBad x = false) (by' : isBad y = false) (h : eqF x y = true) :
    x = y ∨ (x = 0 ∧ y = 9223372036854775808) ∨ (x = 9223372036854775808 ∧ y = 0) := by
  rw [eqF_ok bx by'] at h
  simp only [decide_eq_true_eq] at h
  have wx := word_of hx
  have wy := word_of hy
  rw [word_d] at wx wy
  unfold place at h
  cases hs : minus x <;> cases ht : minus y <;> simp only [hs, ht, if_true, if_false, Bool.false_eq_true] at h wx wy <;> omega
theorem min_max_eq {x y : Nat} (hx : x < 18446744073709551616) (hy : y < 18446744073709551616) (bx : isBad x = false) (by' : isBad y = false) (h1 : ltF x y = false) (h2 : ltF y x = false) (h : eqF x y = true) :
    (minF x y = x ∨ minF x y = y) ∧ (maxF x y = x ∨ maxF x y = y) := by
  unfold minF maxF
  simp only [bx, by', h1, h2, Bool.or_false, Bool.false_eq_true, if_false]
  rcases eq_bits hx hy bx by' h with rfl | ⟨rfl, rfl⟩ | ⟨rfl, rfl⟩
  · simp
  · decide
  · decide
end Go.Proofs.Pt
namespace Go.Proofs.Ythpodinbbmgfoaa
open Go.Proofs.Pt Go.RowKit

set_option maxHeartbeats 4000000 in
theorem Order28_good (x y z : Nat) (hx : x < 18446744073709551616) (hy : y < 18446744073709551616) (hz : z < 18446744073709551616) (b1 : isBad x = false) (b2 : isBad y = false) (w : World) :
    Calls Try.prog 6 #[.int .u64 x, .int .u64 y, .int .u64 z] w fun e w' => e = .returned (.bool true) ∧ Grown w w' := by
  have f4 := eqF_self x
  have f5 := eqF_self y
  have hm := minF_lt hx hy
  have hM := maxF_lt hx hy
  have s1 := self_lt x
  have s2 := self_lt y
  rw [b1] at f4
  rw [b2] at f5
  simp only [Bool.not_false] at f4 f5
  obtain ⟨m, M, em, eM, g1, g2, g3, g4, o1, o2⟩ : ∃ m M, minF x y = m ∧ maxF x y = M ∧ ltF x m = false ∧ ltF y m = false ∧ ltF M x = false ∧ ltF M y = false ∧ (m = x ∨ m = y) ∧ (M = x ∨ M = y) := by
    rcases ways3 b1 b2 with ⟨f1, f2, f3⟩ | ⟨f1, f2, f3⟩ | ⟨f1, f2, f3⟩
    · obtain ⟨a, b⟩ := min_max_lt f1; exact ⟨x, y, a, b, s1, f2, f2, s2, by simp, by simp⟩
    · obtain ⟨a, b⟩ := min_max_gt f2; exact ⟨y, x, a, b, f1, s2, s1, f1, by simp, by simp⟩
    · obtain ⟨a, b⟩ := min_max_eq hx hy b1 b2 f1 f2 f3
      refine ⟨_, _, rfl, rfl, ?_, ?_, ?_, ?_, a, b⟩
      · rcases a with a | a <;> rw [a] <;> assumption
      · rcases a with a | a <;> rw [a] <;> assumption
      · rcases b with a | a <;> rw [a] <;> assumption
      · rcases b with a | a <;> rw [a] <;> assumption
  rw [em] at hm
  rw [eM] at hM
  have kMin : ∀ w, Calls Try.prog 32 #[.int .u64 x, .int .u64 y] w fun e w' => e = .returned (.int .u64 m) ∧ w = w' := fun w => by rw [← em]; exact Min_any x y hx hy w
  have kMax : ∀ w, Calls Try.prog 34 #[.int .u64 x, .int .u64 y] w fun e w' => e = .returned (.int .u64 M) ∧ w = w' := fun w => by rw [← eM]; exact Max_any x y hx hy w
  clear em eM
  have t1 : ltF x y = true → ltF y z = true → ltF x z = true := ltF_trans
  have hor1 : (((m : Int) == (x : Int)) || ((m : Int) == (y : Int))) = true := by rcases o1 with rfl | rfl <;> simp
  have hor2 : (((M : Int) == (x : Int)) || ((M : Int) == (y : Int))) = true := by rcases o2 with rfl | rfl <;> simp
  clear o1 o2 b1 b2 s1 s2
  have HW : (ltF x y = true ∧ ltF y x = false ∧ eqF x y = false ∧ (ltF y z = false ∨ (ltF y z = true ∧ ltF x z = true))) ∨ (ltF x y = false ∧ ltF y x = true ∧ eqF x y = false) ∨ (ltF x y = false ∧ ltF y x = false ∧ eqF x y = true) := by
    have b1 : isBad x = false := by have := eqF_self x; rw [f4] at this; simpa using this.symm
    have b2 : isBad y = false := by have := eqF_self y; rw [f5] at this; simpa using this.symm
    rcases ways3 b1 b2 with ⟨f1, f2, f3⟩ | ⟨f1, f2, f3⟩ | ⟨f1, f2, f3⟩
    · left; refine ⟨f1, f2, f3, ?_⟩
      by_cases q : ltF y z = true
      · right; exact ⟨q, t1 f1 q⟩
      · left; simpa using q
    · right; left; exact ⟨f1, f2, f3⟩
    · right; right; exact ⟨f1, f2, f3⟩
  clear t1
  by_cases c1 : ((m : Int) == (x : Int)) = true <;> (try replace c1 := b_false c1) <;> by_cases c2 : ((M : Int) == (x : Int)) = true <;> (try replace c2 := b_false c2)
  all_goals
    simp only [c1, c2, Bool.true_or, Bool.false_or] at hor1 hor2
    rcases HW with ⟨f1, f2, f3, f6 | ⟨f6, f7⟩⟩ | ⟨f1, f2, f3⟩ | ⟨f1, f2, f3⟩
  all_goals
    go_enter Try.func6, Try.ntmps6
    go_wp2_with (first
      | (go_at_call 36; refine (Less_any _ _ (by assumption) (by assumption) _).mono ?_; rintro e w' ⟨rfl, rfl⟩)
      | (go_at_call 38; refine (Equal_any _ _ (by assumption) (by assumption) _).mono ?_; rintro e w' ⟨rfl, rfl⟩)
      | (go_at_call 32; refine (kMin _).mono ?_; rintro e w' ⟨rfl, rfl⟩)
      | (go_at_call 34; refine (kMax _).mono ?_; rintro e w' ⟨rfl, rfl⟩)
      | (go_at_call 25; refine (heads28 _).mono ?_; rintro e w' ⟨rfl, n, rfl⟩))
    go_ret
    exact ⟨rfl, grown_drewN _ _⟩
set_option maxHeartbeats 4000000 in
theorem Order28_bad (x y z : Nat) (hx : x < 18446744073709551616) (hy : y < 18446744073709551616) (hz : z < 18446744073709551616) (hb : (isBad x = true ∧ isBad y = true) ∨ (isBad x = true ∧ isBad y = false) ∨ (isBad x = false ∧ isBad y = true)) (w : World) :
    Calls Try.prog 6 #[.int .u64 x, .int .u64 y, .int .u64 z] w fun e w' => e = .returned (.bool true) ∧ Grown w w' := by
  have f4 := eqF_self x
  have f5 := eqF_self y
  have hm := minF_lt hx hy
  have hM := maxF_lt hx hy
  have s1 := self_lt x
  have s2 := self_lt y
  rcases hb with ⟨b1, b2⟩ | ⟨b1, b2⟩ | ⟨b1, b2⟩
  all_goals
    have f1 : ltF x y = false := ltF_bad (by first | exact .inl b1 | exact .inr b2)
    have f2 : ltF y x = false := ltF_bad (by first | exact .inr b1 | exact .inl b2)
    have f3 : eqF x y = false := eqF_bad (by first | exact .inl b1 | exact .inr b2)
    simp only [b1, b2, Bool.not_true, Bool.not_false] at f4 f5
    go_enter Try.func6, Try.ntmps6
    go_wp2_with (first
      | (go_at_call 36; refine (Less_any _ _ (by assumption) (by assumption) _).mono ?_; rintro e w' ⟨rfl, rfl⟩)
      | (go_at_call 38; refine (Equal_any _ _ (by assumption) (by assumption) _).mono ?_; rintro e w' ⟨rfl, rfl⟩)
      | (go_at_call 32; refine (Min_any _ _ hx hy _).mono ?_; rintro e w' ⟨rfl, rfl⟩)
      | (go_at_call 34; refine (Max_any _ _ hx hy _).mono ?_; rintro e w' ⟨rfl, rfl⟩)
      | (go_at_call 25; refine (heads28 _).mono ?_; rintro e w' ⟨rfl, n, rfl⟩))
    go_ret
    exact ⟨rfl, grown_drewN _ _⟩
theorem Order28_nat (x y z : Nat) (hx : x < 18446744073709551616) (hy : y < 18446744073709551616) (hz : z < 18446744073709551616) (w : World) :
    Calls Try.prog 6 #[.int .u64 x, .int .u64 y, .int .u64 z] w fun e w' => e = .returned (.bool true) ∧ Grown w w' := by
  by_cases b1 : isBad x = true
  · refine Order28_bad x y z hx hy hz ?_ w
    by_cases b2 : isBad y = true
    · exact .inl ⟨b1, b2⟩
    · exact .inr (.inl ⟨b1, b_false b2⟩)
  · by_cases b2 : isBad y = true
    · exact Order28_bad x y z hx hy hz (.inr (.inr ⟨b_false b1, b2⟩)) w
    · exact Order28_good x y z hx hy hz (b_false b1) (b_false b2) w
theorem PointOrder_walk (a0 a1 a2 : Int) (w0 : (Lit.int .u64 a0).wf = true) (w1 : (Lit.int .u64 a1).wf = true) (w2 : (Lit.int .u64 a2).wf = true) (w : World) :
    Calls Try.prog 6 #[.int .u64 a0, .int .u64 a1, .int .u64 a2] w fun e w' => e = .returned (.bool true) ∧ Grown w w' := by
  obtain ⟨x, rfl, hx⟩ := u64_nat w0
  obtain ⟨y, rfl, hy⟩ := u64_nat w1
  obtain ⟨z, rfl, hz⟩ := u64_nat w2
  exact Order28_nat x y z hx hy hz w
end Go.Proofs.Ythpodinbbmgfoaa
