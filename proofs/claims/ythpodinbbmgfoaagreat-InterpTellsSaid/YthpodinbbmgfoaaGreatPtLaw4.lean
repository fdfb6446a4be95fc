/-
  Plain laws on numbers with a point, fourth part: whole numbers.
-/
import Derived.Test.YthpodinbbmgfoaaGreatPtLaw3
set_option linter.unusedVariables false
set_option linter.unusedSimpArgs false
namespace Go.Proofs.Pt
open Ieee

@[irreducible] def E74 : Nat := 1074
theorem E74_is : E74 = 1074 := by unfold E74; rfl
def unit : Nat := 2 ^ E74
/-- What is ahead of the point. -/
def trunc (x : Nat) : Int := if minus x then -((val (rung x) / unit : Nat) : Int) else ((val (rung x) / unit : Nat) : Int)
def fromI (n : Int) : Nat := floatOfInt .f64 n
def lim : Int := 4890909195324358656
/-- A whole number as a word. -/
def word64 (n : Int) : Nat := (n % 18446744073709551616).toNat
def toW (x : Nat) : Nat :=
  if isBad x then 0 else if lim ≤ place x then 9223372036854775807 else if place x < -lim then 9223372036854775808 else word64 (trunc x)

theorem unit_pos : 0 < unit := Nat.two_pow_pos _

theorem toInt_read {x : Nat} (f : rung x < 9218868437227405312) : (double.read x).toInt .zero = some (trunc x) := by
  rw [read_fin f]
  simp only [Datum.toInt, Datum.integral, cut_zero]
  congr 1
  have hE := E74_is
  have e : (sig (rung x) <<< ((exq (rung x) : Int) - 1074).toNat) / 2 ^ (-((exq (rung x) : Int) - 1074)).toNat = val (rung x) / unit := by
    unfold val unit
    rw [Nat.shiftLeft_eq]
    by_cases h : 1074 ≤ exq (rung x)
    · rw [show (-((exq (rung x) : Int) - 1074)).toNat = 0 from by omega, Nat.pow_zero, Nat.div_one]
      have e2 : exq (rung x) = ((exq (rung x) : Int) - 1074).toNat + E74 := by omega
      rw [show 2 ^ exq (rung x) = 2 ^ ((exq (rung x) : Int) - 1074).toNat * 2 ^ E74 from by rw [← Nat.pow_add, ← e2], ← Nat.mul_assoc, Nat.mul_div_cancel _ (Nat.two_pow_pos _)]
    · rw [show ((exq (rung x) : Int) - 1074).toNat = 0 from by omega, Nat.pow_zero, Nat.mul_one]
      have : 2 ^ E74 = 2 ^ (-((exq (rung x) : Int) - 1074)).toNat * 2 ^ exq (rung x) := by
        rw [← Nat.pow_add]; congr 1; omega
      rw [this, Nat.mul_div_mul_right _ _ (Nat.two_pow_pos _)]
  rw [e]
  unfold signed trunc
  rw [Nat.shiftLeft_zero]

/-- Below 2^63 the whole part is. -/
theorem val_lim : val 4890909195324358656 = 9223372036854775808 * unit := by decide +kernel
theorem whole_lt {r : Nat} (h : r < 4890909195324358656) : val r / unit < 9223372036854775808 := by
  have := val_mono h
  rw [val_lim] at this
  exact Nat.div_lt_of_lt_mul (by rw [Nat.mul_comm]; exact this)
theorem whole_lim : val 4890909195324358656 / unit = 9223372036854775808 := by rw [val_lim, Nat.mul_div_cancel _ unit_pos]

theorem trunc_in {x : Nat} (h1 : place x < lim) (h2 : -lim ≤ place x) : rung x < 9218868437227405312 ∧ -9223372036854775808 ≤ trunc x ∧ trunc x ≤ 9223372036854775807 := by
  unfold place lim at *
  unfold trunc
  have hl : rung x < 4890909195324358656 ∨ (minus x = true ∧ rung x = 4890909195324358656) := by
    cases hm : minus x
    · rw [hm] at h1 h2; simp only [Bool.false_eq_true, if_false] at h1 h2; left; omega
    · rw [hm] at h1 h2; simp only [if_true] at h1 h2
      rcases Nat.lt_or_ge (rung x) 4890909195324358656 with g | g
      · left; exact g
      · right; exact ⟨rfl, by omega⟩
  rcases hl with h | ⟨hm, h⟩
  · have := whole_lt h
    refine ⟨by omega, ?_⟩
    generalize val (rung x) / unit = v at *
    cases minus x <;> simp only [if_true, if_false, Bool.false_eq_true] <;> omega
  · rw [h, hm, whole_lim]; simp

theorem f2i {x : Nat} (h1 : place x < lim) (h2 : -lim ≤ place x) : floatToIntVal .f64 x .i64 = some (trunc x) := by
  obtain ⟨f, a, b⟩ := trunc_in h1 h2
  have : (FloatKind.f64.decode x).toInt .zero = some (trunc x) := toInt_read f
  unfold floatToIntVal
  rw [this]
  have e1 : IntKind.i64.min = -9223372036854775808 := by decide
  have e2 : IntKind.i64.max = 9223372036854775807 := by decide
  simp only [e1, e2]
  rw [if_pos ⟨a, b⟩]

theorem word64_lt (n : Int) : word64 n < 18446744073709551616 := by unfold word64; omega
theorem toW_lt (x : Nat) : toW x < 18446744073709551616 := by
  unfold toW; split
  · decide
  · split
    · decide
    · split
      · decide
      · exact word64_lt _

/-! The document's way to the same. -/
def ex (x : Nat) : Nat := rung x / 4503599627370496
def mant (x : Nat) : Nat := 4503599627370496 + rung x % 4503599627370496
def refW (x : Nat) : Nat := if 1075 ≤ ex x then mant x * 2 ^ (ex x - 1075) else mant x / 2 ^ (1075 - ex x)
def refTo (x : Nat) : Nat :=
  if isBad x || decide (ex x < 1023) then 0 else if 1086 ≤ ex x then (if minus x then 9223372036854775808 else 9223372036854775807)
  else if minus x then word64 (-(refW x : Int)) else refW x

theorem place_ex {x : Nat} : lim ≤ place x ↔ minus x = false ∧ 1086 ≤ ex x := by
  unfold place lim ex; cases minus x <;> simp <;> omega

theorem val_ex {x : Nat} (h : 1 ≤ ex x) : val (rung x) = mant x * 2 ^ (ex x - 1) := by
  unfold val sig exq mant ex at *
  rw [if_neg (by omega), if_neg (by omega)]

theorem whole_ref {x : Nat} (h : 1023 ≤ ex x) : val (rung x) / unit = refW x := by
  have hE := E74_is
  rw [val_ex (by omega)]
  unfold refW unit
  split
  · rename_i h2
    rw [show ex x - 1 = (ex x - 1075) + E74 from by omega, Nat.pow_add, ← Nat.mul_assoc, Nat.mul_div_cancel _ (Nat.two_pow_pos _)]
  · rename_i h2
    rw [show E74 = (1075 - ex x) + (ex x - 1) from by omega, Nat.pow_add, Nat.mul_div_mul_right _ _ (Nat.two_pow_pos _)]
theorem whole_small {x : Nat} (h : ex x < 1023) : val (rung x) / unit = 0 := by
  apply Nat.div_eq_of_lt
  have e : val 4607182418800017408 = unit := by decide +kernel
  rw [← e]
  apply val_mono
  unfold ex at h; omega

theorem toW_ref (x : Nat) : toW x = refTo x := by
  unfold toW refTo
  by_cases b : isBad x = true
  · simp [b]
  have b' : isBad x = false := by simpa using b
  simp only [b', Bool.false_eq_true, if_false, Bool.false_or, decide_eq_true_eq]
  by_cases h1 : ex x < 1023
  · rw [if_pos h1, if_neg (by rw [place_ex]; omega), if_neg (by unfold place lim ex at *; split <;> omega)]
    unfold trunc; rw [whole_small h1]; cases minus x <;> rfl
  · rw [if_neg h1]
    by_cases h2 : 1086 ≤ ex x
    · rw [if_pos h2]
      cases hm : minus x
      · rw [if_pos (place_ex.2 ⟨hm, h2⟩)]; rfl
      · rw [if_neg (by rw [place_ex, hm]; simp)]
        by_cases h3 : place x < -lim
        · rw [if_pos h3]; rfl
        · rw [if_neg h3]
          have hr : rung x = 4890909195324358656 := by unfold place lim ex at *; rw [hm] at h3; simp at h3; omega
          unfold trunc; rw [hm, hr, whole_lim]; decide
    · rw [if_neg h2, if_neg (by rw [place_ex]; omega), if_neg (by unfold place lim ex at *; split <;> omega)]
      unfold trunc; rw [whole_ref (by omega)]
      cases minus x
      · have : refW x < 9223372036854775808 := by
          rw [← whole_ref (by omega)]; apply whole_lt; unfold ex at h2; omega
        simp only [Bool.false_eq_true, if_false]
        unfold word64; omega
      · rfl

theorem nearest_at (s : Bool) {m r : Nat} {p : Int} {k q : Nat} (hr : 0 < r) (hinf : r < 9218868437227405312) (hk : (-1074 : Int) ≤ p + k) (hq : (q : Int) = p + k + 1074)
    (h : m * 2 ^ q = val r * 2 ^ k) : double.nearest s m p = double.word s r := by
  have e : (p + k + 1074).toNat = q := by omega
  exact nearest_exact s hr hinf hk (by rw [e]; exact h)

/-! Whole numbers up to 2^53. -/
theorem fromI_val {n : Int} (h1 : -9007199254740992 ≤ n) (h2 : n ≤ 9007199254740992) :
    ∃ r, fromI n = double.word (decide (n < 0)) r ∧ val r = n.natAbs * unit ∧ r < 4890909195324358656 := by
  by_cases hz : n = 0
  · subst hz; exact ⟨0, by decide, by rw [val_zero]; simp, by decide⟩
  have hn : 0 < n.natAbs := by omega
  have hle : n.natAbs ≤ 9007199254740992 := by omega
  generalize hN : n.natAbs = N at *
  have hL : N.log2 ≤ 53 := by
    have : N.log2 < 54 := (Nat.log2_lt (by omega)).2 (by omega)
    omega
  obtain ⟨q, hq1, hq2, hq3⟩ : ∃ q, 4503599627370496 ≤ q ∧ q < 9007199254740992 ∧ q * 2 ^ N.log2 = N * 4503599627370496 := by
    have a : 2 ^ N.log2 ≤ N := Nat.log2_self_le (by omega)
    have b : N < 2 ^ (N.log2 + 1) := Nat.lt_log2_self
    by_cases h : N.log2 ≤ 52
    · refine ⟨N * 2 ^ (52 - N.log2), ?_, ?_, ?_⟩
      · calc 4503599627370496 = 2 ^ N.log2 * 2 ^ (52 - N.log2) := by rw [← Nat.pow_add, show N.log2 + (52 - N.log2) = 52 from by omega]
          _ ≤ _ := Nat.mul_le_mul_right _ a
      · calc N * 2 ^ (52 - N.log2) < 2 ^ (N.log2 + 1) * 2 ^ (52 - N.log2) := Nat.mul_lt_mul_of_pos_right b (Nat.two_pow_pos _)
          _ = 9007199254740992 := by rw [← Nat.pow_add, show N.log2 + 1 + (52 - N.log2) = 53 from by omega]
      · rw [Nat.mul_assoc, ← Nat.pow_add, show 52 - N.log2 + N.log2 = 52 from by omega]
    · have e : N.log2 = 53 := by omega
      rw [e] at a
      have : N = 9007199254740992 := by omega
      exact ⟨4503599627370496, by omega, by omega, by rw [e, this]⟩
  have hgen : ∀ K, K = 1022 → E74 = 52 + K → val ((N.log2 + K) * 4503599627370496 + q) = N * unit := by
    intro K hK hE
    unfold val sig exq unit
    rw [if_neg (by omega), if_neg (by omega)]
    rw [show 4503599627370496 + ((N.log2 + K) * 4503599627370496 + q) % 4503599627370496 = q from by omega,
      show ((N.log2 + K) * 4503599627370496 + q) / 4503599627370496 - 1 = N.log2 + K from by omega, Nat.pow_add, ← Nat.mul_assoc, hq3, Nat.mul_assoc]
    rw [hE, Nat.pow_add]
  have hval := hgen 1022 rfl E74_is
  refine ⟨(N.log2 + 1022) * 4503599627370496 + q, ?_, hval, by omega⟩
  show double.nearest (decide (n < 0)) n.natAbs 0 = _
  rw [hN]
  exact nearest_at _ (by clear hval; omega) (by clear hval; omega) (q := E74) (k := 0) (by clear hval; omega) (by rw [E74_is]; clear hval; omega) (by rw [hval, Nat.pow_zero, Nat.mul_one]; rfl)

theorem trunc_word {s : Bool} {r : Nat} (h : r < 9223372036854775808) : trunc (double.word s r) = if s then -((val r / unit : Nat) : Int) else ((val r / unit : Nat) : Int) := by
  unfold trunc; rw [rung_word h, minus_word h]
theorem place_word {s : Bool} {r : Nat} (h : r < 9223372036854775808) : place (double.word s r) = if s then -(r : Int) else (r : Int) := by
  unfold place; rw [rung_word h, minus_word h]

theorem toW_fromI {n : Int} (h1 : -9007199254740992 ≤ n) (h2 : n ≤ 9007199254740992) : toW (fromI n) = word64 n := by
  obtain ⟨r, e, v, hr⟩ := fromI_val h1 h2
  rw [e]
  unfold toW
  have b := word_ok (decide (n < 0)) (r := r) (by omega)
  have p := place_word (s := decide (n < 0)) (r := r) (by omega)
  rw [b]
  simp only [Bool.false_eq_true, if_false]
  rw [if_neg (by rw [p]; unfold lim; split <;> omega), if_neg (by rw [p]; unfold lim; split <;> omega), trunc_word (by omega), v, Nat.mul_div_cancel _ unit_pos]
  congr 1
  by_cases hn : n < 0 <;> simp [hn] <;> omega

theorem fromI_ok {n : Int} (h1 : -9007199254740992 ≤ n) (h2 : n ≤ 9007199254740992) : isBad (fromI n) = false := by
  obtain ⟨r, e, v, hr⟩ := fromI_val h1 h2
  rw [e]; exact word_ok _ (by omega)

theorem place_fromI {n m : Int} (h1 : -9007199254740992 ≤ n) (h2 : n ≤ 9007199254740992) (g1 : -9007199254740992 ≤ m) (g2 : m ≤ 9007199254740992) :
    (place (fromI n) < place (fromI m) ↔ n < m) := by
  obtain ⟨r, e, v, hr⟩ := fromI_val h1 h2
  obtain ⟨q, e', v', hq⟩ := fromI_val g1 g2
  rw [e, e', place_word (by omega), place_word (by omega)]
  have a1 : r < q ↔ n.natAbs < m.natAbs := by
    rw [← val_lt_iff, v, v']; exact Nat.mul_lt_mul_right unit_pos
  have a2 : q < r ↔ m.natAbs < n.natAbs := by
    rw [← val_lt_iff, v, v']; exact Nat.mul_lt_mul_right unit_pos
  have z : n = 0 → r = 0 := fun hz => val_inj (by rw [v, hz, val_zero]; simp)
  have z1 : m = 0 → q = 0 := fun hz => val_inj (by rw [v', hz, val_zero]; simp)
  have z2 : r = 0 → n = 0 := fun hz => by
    rw [hz, val_zero] at v
    rcases Nat.eq_zero_or_pos n.natAbs with k | k
    · omega
    · have := Nat.mul_pos k unit_pos; omega
  have z3 : q = 0 → m = 0 := fun hz => by
    rw [hz, val_zero] at v'
    rcases Nat.eq_zero_or_pos m.natAbs with k | k
    · omega
    · have := Nat.mul_pos k unit_pos; omega
  by_cases hn : n < 0 <;> by_cases hm : m < 0 <;> simp only [hn, hm, decide_true, decide_false, if_true, if_false, Bool.false_eq_true] <;> omega

theorem fromI_lt (n : Int) : fromI n < 18446744073709551616 := by
  have h := floatOfInt_wf .f64 n
  simpa [Lit.wf, fromI] using h
theorem fromI_good (n : Int) : isBad (fromI n) = false := by
  show isBad (double.nearest (decide (n < 0)) n.natAbs 0) = false
  unfold Format.nearest
  simp only []
  split
  · exact word_ok _ (by omega)
  · refine word_ok _ ?_
    rw [dI]; omega

theorem and_sign (x : Nat) (hx : x < 18446744073709551616) : bits .and .u64 (x : Int) 9223372036854775808 = if minus x then 9223372036854775808 else 0 := by
  have h := u64_and_nat x 9223372036854775808 hx (by decide)
  have h1 := @Nat.and_mod_two_pow x 9223372036854775808 63
  have h2 := @Nat.and_div_two_pow x 9223372036854775808 63
  simp only [Nat.reducePow, Nat.reduceMod, Nat.reduceDiv, Nat.and_zero, Nat.and_one_is_mod] at h1 h2
  refine h.trans ?_
  unfold minus
  generalize x &&& 9223372036854775808 = v at *
  by_cases g : x / 9223372036854775808 % 2 = 1
  · simp only [g, beq_self_eq_true, if_true]; omega
  · have g' : (x / 9223372036854775808 % 2 == 1) = false := by simpa using g
    simp only [g', Bool.false_eq_true, if_false]; omega
theorem minus_lt {x : Nat} (hx : x < 18446744073709551616) (h : minus x = false) : x < 9223372036854775808 := by
  unfold minus at h
  have h' : ¬ x / 9223372036854775808 % 2 = 1 := by simpa using h
  omega
theorem ex_le (x : Nat) : ex x ≤ 2047 := by unfold ex rung; omega
theorem mant_lt (x : Nat) : mant x < 9007199254740992 := by unfold mant; omega
theorem bits_ex (x : Nat) (hx : x < 18446744073709551616) : bits .and .u64 ((x : Int) / 4503599627370496) 2047 = (ex x : Int) := by
  have h := u64_and_nat (x / 4503599627370496) 2047 (by omega) (by decide)
  have e : (x / 4503599627370496) &&& 2047 = ex x := by
    have := Nat.and_two_pow_sub_one_eq_mod (x / 4503599627370496) 11
    simp only [Nat.reducePow, Nat.reduceSub] at this
    rw [this]; unfold ex rung; omega
  rw [e] at h
  exact h
theorem bits_m1 (x : Nat) (hx : x < 18446744073709551616) : bits .and .u64 (x : Int) 4503599627370495 = ((x % 4503599627370496 : Nat) : Int) := by
  have h := u64_and_nat x 4503599627370495 hx (by decide)
  have := Nat.and_two_pow_sub_one_eq_mod x 52
  simp only [Nat.reducePow, Nat.reduceSub] at this
  rw [this] at h
  exact h
theorem bits_m2 (x : Nat) : bits .or .u64 ((x : Int) % 4503599627370496) 4503599627370496 = (mant x : Int) := by
  have h := u64_or_nat (x % 4503599627370496) 4503599627370496 (by omega) (by decide)
  have := Nat.two_pow_add_eq_or_of_lt (i := 52) (b := x % 4503599627370496) (Nat.mod_lt _ (by decide)) 1
  simp only [Nat.reducePow, Nat.mul_one] at this
  rw [Nat.or_comm, ← this] at h
  refine h.trans ?_
  unfold mant rung; omega
theorem refW_hi {x : Nat} (h : 1075 ≤ ex x) : mant x * 2 ^ (ex x - 1075) = refW x := by unfold refW; rw [if_pos h]
theorem refW_lo {x : Nat} (h : ex x < 1075) : mant x / 2 ^ (1075 - ex x) = refW x := by unfold refW; rw [if_neg (by omega)]
theorem refW_lt {x : Nat} (h : ex x < 1086) : refW x < 9223372036854775808 := by
  have hm := mant_lt x
  unfold refW
  split
  · calc mant x * 2 ^ (ex x - 1075) < 9007199254740992 * 2 ^ (ex x - 1075) := Nat.mul_lt_mul_of_pos_right hm (Nat.two_pow_pos _)
      _ ≤ 9007199254740992 * 2 ^ 10 := Nat.mul_le_mul_left _ (Nat.pow_le_pow_right (by decide) (by omega))
      _ = 9223372036854775808 := by decide
  · have := Nat.div_le_self (mant x) (2 ^ (1075 - ex x)); omega
theorem hi_ref {x : Nat} (h1 : 1075 ≤ ex x) (h2 : ¬ 1086 ≤ ex x) : IntKind.u64.wrap ((mant x : Int) * 2 ^ (ex x - 1075)) = (refW x : Int) := by
  have e : (mant x : Int) * 2 ^ (ex x - 1075) = (refW x : Int) := by rw [← refW_hi h1]; simp [Int.natCast_mul, Int.natCast_pow]
  have := refW_lt (x := x) (by omega)
  rw [e]; exact IntWalk.u64_in _ (by omega)
theorem lo_ref {x : Nat} (h1 : ¬ 1075 ≤ ex x) : (mant x : Int) / 2 ^ (1075 - ex x) = (refW x : Int) := by
  rw [← refW_lo (by omega)]; simp [Int.natCast_pow]
theorem wrap_word (n : Int) : IntKind.u64.wrap n = (word64 n : Int) := by
  rw [IntKind.wrap_u64]; unfold word64; omega
/-! The lesser and the greater. -/
def minF (x y : Nat) : Nat := if isBad x || isBad y then canon else if ltF x y then x else if ltF y x then y else x ||| y
def maxF (x y : Nat) : Nat := if isBad x || isBad y then canon else if ltF y x then x else if ltF x y then y else x &&& y
theorem ltF_good {x y : Nat} (h : ltF x y = true) : isBad x = false ∧ isBad y = false := by
  by_cases b1 : isBad x = true
  · rw [ltF_bad (.inl b1)] at h; cases h
  by_cases b2 : isBad y = true
  · rw [ltF_bad (.inr b2)] at h; cases h
  · exact ⟨by simpa using b1, by simpa using b2⟩
theorem ltF_asymm {x y : Nat} (h : ltF x y = true) : ltF y x = false := by
  obtain ⟨a, b⟩ := ltF_good h
  rw [ltF_ok a b] at h
  rw [ltF_ok b a]
  simp only [decide_eq_true_eq] at h
  simp; omega
end Go.Proofs.Pt
