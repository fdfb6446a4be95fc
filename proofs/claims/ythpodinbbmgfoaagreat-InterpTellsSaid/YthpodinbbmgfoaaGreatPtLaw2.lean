/-
  Plain laws on numbers with a point, second part: order, sums, products, quotients, and whole numbers.
-/
import Derived.Test.YthpodinbbmgfoaaGreatPtLaw
set_option linter.unusedVariables false
set_option linter.unusedSimpArgs false
namespace Go.Proofs.Pt
open Ieee

def place (x : Nat) : Int := if minus x then -(rung x : Int) else (rung x : Int)
def ltF (x y : Nat) : Bool := double.order x y == some .lt
def eqF (x y : Nat) : Bool := double.order x y == some .eq

theorem rung_lt (x : Nat) : rung x < 9223372036854775808 := Nat.mod_lt _ (by decide)

/-- The three kinds of words. -/
theorem kinds (x : Nat) : rung x < 9218868437227405312 ∨ rung x = 9218868437227405312 ∨ isBad x = true := by
  rw [isBad_iff]; omega

theorem signed_val (s : Bool) (r : Nat) (b : Int) (hb : b ≤ (exq r : Int) - 1074) (hb2 : (-1074 : Int) ≤ b) :
    signed s (sig r) ((exq r : Int) - 1074 - b).toNat * (2 ^ (b + 1074).toNat : Nat) = if s then -(val r : Int) else (val r : Int) := by
  have e : sig r <<< ((exq r : Int) - 1074 - b).toNat * 2 ^ (b + 1074).toNat = val r := by
    rw [Nat.shiftLeft_eq, Nat.mul_assoc, ← Nat.pow_add]
    unfold val
    congr 2
    omega
  unfold signed
  cases s
  · simp only [Bool.false_eq_true, if_false]; rw [← Int.natCast_mul, e]
  · simp only [if_true]; rw [Int.neg_mul, ← Int.natCast_mul, e]

theorem compare_mul (a b : Int) (k : Nat) (hk : 0 < k) : compare (a * k) (b * k) = compare a b := by
  have hk' : (0 : Int) < k := by omega
  rcases Int.lt_trichotomy a b with h | h | h
  · rw [Int.compare_eq_lt.2 h, Int.compare_eq_lt.2 (Int.mul_lt_mul_of_pos_right h hk')]
  · subst h; rw [Int.compare_eq_eq.2 rfl, Int.compare_eq_eq.2 rfl]
  · rw [Int.compare_eq_gt.2 h, Int.compare_eq_gt.2 (Int.mul_lt_mul_of_pos_right h hk')]

theorem order_bad {x y : Nat} (h : isBad x = true ∨ isBad y = true) : double.order x y = none := by
  unfold Format.order
  rcases h with h | h
  · rw [read_nan ((isBad_iff x).1 h)]; rfl
  · rw [read_nan ((isBad_iff y).1 h)]
    cases double.read x <;> rfl

theorem cmp_nat (a b : Nat) : compare (a : Int) (b : Int) = compare a b := by
  rcases Nat.lt_trichotomy a b with h | h | h
  · rw [Nat.compare_eq_lt.2 h, Int.compare_eq_lt.2 (by omega)]
  · subst h; rw [Int.compare_eq_eq.2 rfl, Nat.compare_eq_eq.2 rfl]
  · rw [Nat.compare_eq_gt.2 h, Int.compare_eq_gt.2 (by omega)]

theorem val_cmp (s t : Bool) (r q : Nat) :
    compare (if s then -(val r : Int) else (val r : Int)) (if t then -(val q : Int) else (val q : Int)) =
      compare (if s then -(r : Int) else (r : Int)) (if t then -(q : Int) else (q : Int)) := by
  have h1 := @val_lt_iff r q
  have h2 := @val_lt_iff q r
  have z1 : val r = 0 ↔ r = 0 := ⟨fun h => val_inj (by rw [h, val_zero]), fun h => by rw [h, val_zero]⟩
  have z2 : val q = 0 ↔ q = 0 := ⟨fun h => val_inj (by rw [h, val_zero]), fun h => by rw [h, val_zero]⟩
  generalize val r = a at *
  generalize val q = b at *
  have key : ∀ u v m n : Int, (u < v ↔ m < n) → (v < u ↔ n < m) → compare u v = compare m n := by
    intro u v m n e1 e2
    rcases Int.lt_trichotomy m n with h | h | h
    · rw [Int.compare_eq_lt.2 h, Int.compare_eq_lt.2 (e1.2 h)]
    · rw [Int.compare_eq_eq.2 h, Int.compare_eq_eq.2 (by
        have a1 : ¬ u < v := fun q => by have := e1.1 q; omega
        have a2 : ¬ v < u := fun q => by have := e2.1 q; omega
        omega)]
    · rw [Int.compare_eq_gt.2 h, Int.compare_eq_gt.2 (e2.2 h)]
  refine key _ _ _ _ ?_ ?_ <;> cases s <;> cases t <;> simp only [if_true, if_false, Bool.false_eq_true] <;> omega

theorem order_ok {x y : Nat} (hx : isBad x = false) (hy : isBad y = false) : double.order x y = some (compare (place x) (place y)) := by
  have hx' := (isBad_not x).1 hx
  have hy' := (isBad_not y).1 hy
  unfold Format.order
  by_cases fx : rung x < 9218868437227405312
  · by_cases fy : rung y < 9218868437227405312
    · rw [read_fin fx, read_fin fy]
      simp only [Datum.order]
      congr 1
      have hb1 : min ((exq (rung x) : Int) - 1074) ((exq (rung y) : Int) - 1074) ≤ (exq (rung x) : Int) - 1074 := Int.min_le_left _ _
      have hb2 : min ((exq (rung x) : Int) - 1074) ((exq (rung y) : Int) - 1074) ≤ (exq (rung y) : Int) - 1074 := Int.min_le_right _ _
      have hb3 : (-1074 : Int) ≤ min ((exq (rung x) : Int) - 1074) ((exq (rung y) : Int) - 1074) := by omega
      generalize min ((exq (rung x) : Int) - 1074) ((exq (rung y) : Int) - 1074) = b at *
      rw [← compare_mul _ _ _ (Nat.two_pow_pos (b + 1074).toNat), signed_val _ _ _ hb1 hb3, signed_val _ _ _ hb2 hb3, val_cmp]
      rfl
    · have iy : rung y = 9218868437227405312 := by omega
      rw [read_fin fx, read_inf iy]
      simp only [Datum.order]
      congr 1
      unfold place; rw [iy]
      generalize rung x = r at *
      cases minus y <;> cases minus x <;> simp only [if_true, if_false, Bool.false_eq_true] <;> symm <;> first | (rw [Int.compare_eq_lt]; omega) | (rw [Int.compare_eq_gt]; omega)
  · have ix : rung x = 9218868437227405312 := by omega
    by_cases fy : rung y < 9218868437227405312
    · rw [read_inf ix, read_fin fy]
      simp only [Datum.order]
      congr 1
      unfold place; rw [ix]
      generalize rung y = r at *
      cases minus y <;> cases minus x <;> simp only [if_true, if_false, Bool.false_eq_true] <;> symm <;> first | (rw [Int.compare_eq_lt]; omega) | (rw [Int.compare_eq_gt]; omega)
    · have iy : rung y = 9218868437227405312 := by omega
      rw [read_inf ix, read_inf iy]
      simp only [Datum.order]
      congr 1
      unfold place; rw [ix, iy]
      cases minus y <;> cases minus x <;> decide +kernel

theorem ltF_ok {x y : Nat} (hx : isBad x = false) (hy : isBad y = false) : ltF x y = decide (place x < place y) := by
  unfold ltF; rw [order_ok hx hy]
  rcases Int.lt_trichotomy (place x) (place y) with h | h | h
  · rw [Int.compare_eq_lt.2 h]; simp [h]
  · rw [Int.compare_eq_eq.2 h]; simp [h]
  · rw [Int.compare_eq_gt.2 h]; simp; omega
theorem eqF_ok {x y : Nat} (hx : isBad x = false) (hy : isBad y = false) : eqF x y = decide (place x = place y) := by
  unfold eqF; rw [order_ok hx hy]
  rcases Int.lt_trichotomy (place x) (place y) with h | h | h
  · rw [Int.compare_eq_lt.2 h]; simp; omega
  · rw [Int.compare_eq_eq.2 h]; simp [h]
  · rw [Int.compare_eq_gt.2 h]; simp; omega
theorem ltF_bad {x y : Nat} (h : isBad x = true ∨ isBad y = true) : ltF x y = false := by unfold ltF; rw [order_bad h]; rfl
theorem eqF_bad {x y : Nat} (h : isBad x = true ∨ isBad y = true) : eqF x y = false := by unfold eqF; rw [order_bad h]; rfl
end Go.Proofs.Pt
