/-
  The walk of the statement PointInts: whatever the two numbers and the bits, the call returns true.
-/
import Derived.Test.YthpodinbbmgfoaaPtOrder
set_option linter.unusedVariables false
namespace Go.Proofs.Pt
theorem wrap_of_word {n : Int} (h1 : -9223372036854775808 ≤ n) (h2 : n ≤ 9223372036854775807) : IntKind.i64.wrap (word64 n : Int) = n := by
  rw [IntKind.wrap_i64]; unfold word64; omega
theorem i64_back {t : Nat} (ht : t < 18446744073709551616) : -9223372036854775808 ≤ IntKind.i64.wrap (t : Int) ∧ IntKind.i64.wrap (t : Int) ≤ 9223372036854775807 ∧ word64 (IntKind.i64.wrap (t : Int)) = t := by
  rw [IntKind.wrap_i64]; unfold word64; omega
theorem lt_fromI {n m : Int} (h1 : -9007199254740992 ≤ n) (h2 : n ≤ 9007199254740992) (g1 : -9007199254740992 ≤ m) (g2 : m ≤ 9007199254740992) :
    ltF (fromI n) (fromI m) = decide (n < m) ∧ eqF (fromI n) (fromI m) = decide (n = m) := by
  have a := place_fromI h1 h2 g1 g2
  have b := place_fromI g1 g2 h1 h2
  rw [ltF_ok (fromI_good n) (fromI_good m), eqF_ok (fromI_good n) (fromI_good m), decide_eq_decide, decide_eq_decide]
  exact ⟨a, by omega⟩
end Go.Proofs.Pt
namespace Go.Proofs.Ythpodinbbmgfoaa
open Go.Proofs.Pt Go.RowKit

set_option maxHeartbeats 4000000 in
theorem Ints28_in (n m : Int) (x : Nat) (h1 : -9007199254740992 ≤ n) (h2 : n ≤ 9007199254740992) (g1 : -9007199254740992 ≤ m) (g2 : m ≤ 9007199254740992) (hx : x < 18446744073709551616) (w : World) :
    Calls Try.prog 7 #[.int .i64 n, .int .i64 m, .int .u64 x] w fun e w' => e = .returned (.bool true) ∧ Grown w w' := by
  obtain ⟨l1, l2⟩ := lt_fromI h1 h2 g1 g2
  have u1 := wrap_word n
  have u2 := wrap_word m
  have p1 := word64_lt n
  have p2 := word64_lt m
  have kn : ∀ w, Calls Try.prog 40 #[.int .u64 (word64 n)] w fun e w' => e = .returned (.int .u64 (fromI n)) ∧ w = w' := fun w => by
    have := FromInt_any (word64 n) p1 w
    rw [wrap_of_word (by omega) (by omega)] at this; exact this
  have km : ∀ w, Calls Try.prog 40 #[.int .u64 (word64 m)] w fun e w' => e = .returned (.int .u64 (fromI m)) ∧ w = w' := fun w => by
    have := FromInt_any (word64 m) p2 w
    rw [wrap_of_word (by omega) (by omega)] at this; exact this
  have tn : ∀ w, Calls Try.prog 42 #[.int .u64 (fromI n)] w fun e w' => e = .returned (.int .u64 (word64 n)) ∧ w = w' := fun w => by
    have := ToInt_any (fromI n) (fromI_lt n) w
    rw [toW_fromI h1 h2] at this; exact this
  have tm : ∀ w, Calls Try.prog 42 #[.int .u64 (fromI m)] w fun e w' => e = .returned (.int .u64 (word64 m)) ∧ w = w' := fun w => by
    have := ToInt_any (fromI m) (fromI_lt m) w
    rw [toW_fromI g1 g2] at this; exact this
  have kl : ∀ w, Calls Try.prog 36 #[.int .u64 (fromI n), .int .u64 (fromI m)] w fun e w' => e = .returned (.bool (decide (n < m))) ∧ w = w' := fun w => by
    have := Less_any (fromI n) (fromI m) (fromI_lt n) (fromI_lt m) w
    rw [l1] at this; exact this
  have ke : ∀ w, Calls Try.prog 38 #[.int .u64 (fromI n), .int .u64 (fromI m)] w fun e w' => e = .returned (.bool (n == m)) ∧ w = w' := fun w => by
    have := Equal_any (fromI n) (fromI m) (fromI_lt n) (fromI_lt m) w
    rw [l2] at this; exact this
  have kx : ∀ w, Calls Try.prog 42 #[.int .u64 x] w fun e w' => e = .returned (.int .u64 (toW x)) ∧ w = w' := fun w => ToInt_any x hx w
  have ht := toW_lt x
  obtain ⟨q1, q2, q3⟩ := i64_back ht
  generalize toW x = t at *
  have kt : ∀ w, Calls Try.prog 40 #[.int .u64 t] w fun e w' => e = .returned (.int .u64 (fromI (IntKind.i64.wrap t))) ∧ w = w' := fun w => FromInt_any t ht w
  have kq : ∀ w, Calls Try.prog 42 #[.int .u64 (fromI (IntKind.i64.wrap t))] w fun e w' => e = .returned (.int .u64 (toW (fromI (IntKind.i64.wrap t)))) ∧ w = w' := fun w => ToInt_any _ (fromI_lt _) w
  have hq := IntWalk.i64_left (t : Int)
  generalize IntKind.i64.wrap (t : Int) = q at *
  have hs : -9007199254740992 ≤ q → q ≤ 9007199254740992 → toW (fromI q) = t := fun a b => by rw [toW_fromI a b, q3]
  generalize toW (fromI q) = t' at *
  clear l1 l2 q3
  have hq' := hq.symm
  clear hq
  generalize word64 n = wn at *
  generalize word64 m = wm at *
  generalize fromI n = fn at *
  generalize fromI m = fm at *
  generalize fromI q = fq at *
  by_cases s1 : -9007199254740992 ≤ q <;> by_cases s2 : q ≤ 9007199254740992
  all_goals first
    | (exfalso; omega)
    | skip
  all_goals
    (try have e := hs s1 s2)
    (try subst e)
    clear hs ht p1 p2
    go_enter Try.func7, Try.ntmps7
    go_wp2_with fail; (refine (kn _).mono ?_); rintro e w' ⟨rfl, rfl⟩
    go_wp2_with fail; (refine (km _).mono ?_); rintro e w' ⟨rfl, rfl⟩
    go_wp2_with fail; (refine (kx _).mono ?_); rintro e w' ⟨rfl, rfl⟩
    go_wp2_with fail; (refine (kt _).mono ?_); rintro e w' ⟨rfl, rfl⟩
    go_wp2_with fail; (refine (kq _).mono ?_); rintro e w' ⟨rfl, rfl⟩
    go_wp2_with fail; (refine (tn _).mono ?_); rintro e w' ⟨rfl, rfl⟩
    go_wp2_with fail; (refine (tm _).mono ?_); rintro e w' ⟨rfl, rfl⟩
    go_wp2_with fail; (refine (kl _).mono ?_); rintro e w' ⟨rfl, rfl⟩
    go_wp2_with fail; (refine (ke _).mono ?_); rintro e w' ⟨rfl, rfl⟩
    go_wp2_with fail; (refine (heads28 _).mono ?_); rintro e w' ⟨rfl, n1, rfl⟩
    go_wp2
    go_ret
    exact ⟨rfl, grown_drewN _ _⟩
theorem Ints28_out (n m : Int) (x : Nat) (h : n < -9007199254740992 ∨ 9007199254740992 < n ∨ m < -9007199254740992 ∨ 9007199254740992 < m) (w : World) :
    Calls Try.prog 7 #[.int .i64 n, .int .i64 m, .int .u64 x] w fun e w' => e = .returned (.bool true) ∧ Grown w w' := by
  by_cases h1 : n < -9007199254740992 <;> by_cases h2 : 9007199254740992 < n <;> by_cases h3 : m < -9007199254740992 <;> by_cases h4 : 9007199254740992 < m
  all_goals first
    | (exfalso; omega)
    | skip
  all_goals
    clear h
    go_enter Try.func7, Try.ntmps7
    go_wp2_with fail; (refine (heads28 _).mono ?_); rintro e w' ⟨rfl, n1, rfl⟩
    go_wp2
    go_ret
    exact ⟨rfl, grown_drewN _ _⟩
theorem PointInts_walk (a0 a1 a2 : Int) (w0 : (Lit.int .i64 a0).wf = true) (w1 : (Lit.int .i64 a1).wf = true) (w2 : (Lit.int .u64 a2).wf = true) (w : World) :
    Calls Try.prog 7 #[.int .i64 a0, .int .i64 a1, .int .u64 a2] w fun e w' => e = .returned (.bool true) ∧ Grown w w' := by
  obtain ⟨x, rfl, hx⟩ := u64_nat w2
  by_cases h : a0 < -9007199254740992 ∨ 9007199254740992 < a0 ∨ a1 < -9007199254740992 ∨ 9007199254740992 < a1
  · exact Ints28_out a0 a1 x h w
  · exact Ints28_in a0 a1 x (by omega) (by omega) (by omega) (by omega) hx w
end Go.Proofs.Ythpodinbbmgfoaa
