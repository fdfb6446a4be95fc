/-
  Plain laws on numbers with a point by their 64 bits: what the standard's operations come to on exactly such numbers. No program in sight.
-/
import Derived.Test.YthpodinbbmgfoaaGreatPtBase
set_option linter.unusedVariables false
set_option linter.unusedSimpArgs false
namespace Go.Proofs.Pt
open Ieee

theorem dB : double.binade = 4503599627370496 := by decide
theorem dF : double.fractionBits = 52 := by decide
theorem dI : double.infRung = 9218868437227405312 := by decide
theorem dS : double.signWeight = 9223372036854775808 := by decide
theorem dL : double.leastPlace = -1074 := by decide

def rung (x : Nat) : Nat := x % 9223372036854775808
def minus (x : Nat) : Bool := x / 9223372036854775808 % 2 == 1
def sig (r : Nat) : Nat := if r < 4503599627370496 then r else 4503599627370496 + r % 4503599627370496
def exq (r : Nat) : Nat := if r < 4503599627370496 then 0 else r / 4503599627370496 - 1
/-- A rung's number, in units of 2^-1074. -/
def val (r : Nat) : Nat := sig r * 2 ^ exq r

theorem word_d (s : Bool) (r : Nat) : double.word s r = if s then 9223372036854775808 + r else r := by
  unfold Format.word; rw [dS]

theorem read_fin {x : Nat} (h : rung x < 9218868437227405312) : double.read x = .number (minus x) (sig (rung x)) ((exq (rung x) : Int) - 1074) := by
  unfold Format.read
  simp only [dS, dB, dI, dL]
  unfold sig exq rung minus at *
  split
  · rename_i h1; simp
  · congr 1

theorem read_inf {x : Nat} (h : rung x = 9218868437227405312) : double.read x = .infinity (minus x) := by
  unfold Format.read
  simp only [dS, dB, dI, dL]
  unfold rung minus at *
  rw [if_neg (by omega), if_neg (by omega), if_pos h]

theorem read_nan {x : Nat} (h : 9218868437227405312 < rung x) : double.read x = .nan (minus x) (rung x - 9218868437227405312) := by
  unfold Format.read
  simp only [dS, dB, dI, dL]
  unfold rung minus at *
  rw [if_neg (by omega), if_neg (by omega), if_neg (by omega)]

theorem isBad_iff (x : Nat) : isBad x = true ↔ 9218868437227405312 < rung x := by simp [isBad, rung]
theorem isBad_not (x : Nat) : isBad x = false ↔ rung x ≤ 9218868437227405312 := by simp [isBad, rung]

/-- A word is its sign and its rung. -/
theorem word_of {x : Nat} (hx : x < 18446744073709551616) : double.word (minus x) (rung x) = x := by
  rw [word_d]; unfold minus rung
  by_cases h : x < 9223372036854775808
  · have : x / 9223372036854775808 % 2 = 0 := by omega
    simp [this]; omega
  · have : x / 9223372036854775808 % 2 = 1 := by omega
    simp [this]; omega
theorem rung_word {s : Bool} {r : Nat} (h : r < 9223372036854775808) : rung (double.word s r) = r := by
  rw [word_d]; unfold rung; split <;> omega
theorem minus_word {s : Bool} {r : Nat} (h : r < 9223372036854775808) : minus (double.word s r) = s := by
  rw [word_d]; unfold minus
  cases s
  · have : r / 9223372036854775808 % 2 = 0 := by omega
    simp [this]
  · have : (9223372036854775808 + r) / 9223372036854775808 % 2 = 1 := by omega
    simp only [if_true, this]; rfl
theorem word_lt' {s : Bool} {r : Nat} (h : r < 9223372036854775808) : double.word s r < 18446744073709551616 := by
  rw [word_d]; split <;> omega

theorem sig_pos {r : Nat} (h : 0 < r) : 0 < sig r := by unfold sig; split <;> omega
theorem sig_zero : sig 0 = 0 := by decide
theorem sig_lt (r : Nat) : sig r < 9007199254740992 := by unfold sig; split <;> omega
theorem sig_big {r : Nat} (h : 4503599627370496 ≤ r) : 4503599627370496 ≤ sig r := by unfold sig; split <;> omega
theorem rung_of (r : Nat) : exq r * 4503599627370496 + sig r = r := by unfold exq sig; split <;> omega
theorem exq_small {r : Nat} (h : r < 4503599627370496) : exq r = 0 := by simp [exq, h]
theorem val_pos {r : Nat} (h : 0 < r) : 0 < val r := Nat.mul_pos (sig_pos h) (Nat.two_pow_pos _)
theorem val_zero : val 0 = 0 := by decide

/-- The lesser rung has the lesser number. -/
theorem val_step (r : Nat) : val r < val (r + 1) := by
  by_cases h : r + 1 < 4503599627370496
  · simp only [val, sig, exq, h, (by omega : r < 4503599627370496), if_true]; omega
  by_cases h1 : r < 4503599627370496
  · have : r = 4503599627370495 := by omega
    subst this; decide
  by_cases h2 : r % 4503599627370496 + 1 < 4503599627370496
  · have a : (r + 1) % 4503599627370496 = r % 4503599627370496 + 1 := by omega
    have b : (r + 1) / 4503599627370496 = r / 4503599627370496 := by omega
    simp only [val, sig, exq, h, h1, if_false, a, b]
    exact Nat.mul_lt_mul_of_pos_right (by omega) (Nat.two_pow_pos _)
  · have a : (r + 1) % 4503599627370496 = 0 := by omega
    have b : (r + 1) / 4503599627370496 = r / 4503599627370496 + 1 := by omega
    have c : r % 4503599627370496 = 4503599627370495 := by omega
    have d : r / 4503599627370496 + 1 - 1 = (r / 4503599627370496 - 1) + 1 := by omega
    simp only [val, sig, exq, h, h1, if_false, a, b, c, d, Nat.pow_succ]
    have := Nat.two_pow_pos (r / 4503599627370496 - 1)
    omega
theorem val_mono {r s : Nat} (h : r < s) : val r < val s := by
  induction s with
  | zero => omega
  | succ s ih =>
    have := val_step s
    by_cases e : r = s
    · subst e; exact this
    · have := ih (by omega); omega
theorem val_inj {r s : Nat} (h : val r = val s) : r = s := by
  rcases Nat.lt_trichotomy r s with a | a | a
  · have := val_mono a; omega
  · exact a
  · have := val_mono a; omega
theorem val_lt_iff {r s : Nat} : val r < val s ↔ r < s := by
  constructor
  · intro h
    rcases Nat.lt_trichotomy r s with a | a | a
    · exact a
    · subst a; omega
    · have := val_mono a; omega
  · exact val_mono

theorem cut_zero (s : Bool) (n drop : Nat) : Toward.zero.cut s n drop = n / 2 ^ drop := by
  unfold Toward.cut
  simp only [Bool.toNat_false, Nat.add_zero, Nat.shiftLeft_eq, Nat.one_mul]
  by_cases h : drop ≤ n.log2 + 2
  · rw [Nat.min_eq_left h]
  · rw [Nat.min_eq_right (by omega)]
    have h1 : n < 2 ^ (n.log2 + 1) := Nat.lt_log2_self
    have h2 : 2 ^ (n.log2 + 1) ≤ 2 ^ (n.log2 + 2) := Nat.pow_le_pow_right (by decide) (by omega)
    have h3 : 2 ^ (n.log2 + 1) ≤ 2 ^ drop := Nat.pow_le_pow_right (by decide) (by omega)
    rw [Nat.div_eq_of_lt (by omega), Nat.div_eq_of_lt (by omega)]

/-- What is cut off where nothing is left over. -/
theorem cut_even_exact (s : Bool) (k drop : Nat) (hk : 0 < k) : Toward.even.cut s (k * 2 ^ drop) drop = k := by
  unfold Toward.cut
  have hp := Nat.two_pow_pos drop
  have hlog : drop ≤ (k * 2 ^ drop).log2 + 2 := by
    have : drop ≤ (k * 2 ^ drop).log2 := (Nat.le_log2 (by have := Nat.mul_pos hk hp; omega)).2 (Nat.le_mul_of_pos_left _ hk)
    omega
  simp only [Nat.shiftLeft_eq, Nat.one_mul, Nat.min_eq_left hlog, Nat.mul_div_cancel _ hp, Nat.mul_mod_left]
  have h1 : decide (2 ^ drop < 2 * 0) = false := by simp
  have h2 : (2 ^ drop == 2 * 0) = false := by simp
  rw [h1, h2]; simp

theorem sig_log {r : Nat} (h : 0 < r) : (r < 4503599627370496 → (sig r).log2 < 52) ∧ (4503599627370496 ≤ r → (sig r).log2 = 52) := by
  have hp := sig_pos h
  constructor
  · intro hr
    rw [Nat.log2_lt (by omega)]
    unfold sig; rw [if_pos hr]; exact hr
  · intro hr
    rw [Nat.log2_eq_iff (by omega)]
    exact ⟨sig_big hr, sig_lt r⟩

/-- THE NEAREST WORD OF A NUMBER THAT IS EXACTLY A RUNG's. -/
theorem nearest_exact (s : Bool) {m r : Nat} {p : Int} {k : Nat} (hr : 0 < r) (hinf : r < 9218868437227405312) (hk : (-1074 : Int) ≤ p + k)
    (h : m * 2 ^ (p + k + 1074).toNat = val r * 2 ^ k) : double.nearest s m p = double.word s r := by
  have hv := val_pos hr
  have hs := sig_pos hr
  have hkp := Nat.two_pow_pos k
  have hm : 0 < m := by
    rcases Nat.eq_zero_or_pos m with e | e
    · subst e; have := Nat.mul_pos hv hkp; simp at h; omega
    · exact e
  -- where the last digit stands
  have hlog : (m.log2 : Int) + p = (sig r).log2 + exq r - 1074 := by
    have a : (m * 2 ^ (p + k + 1074).toNat).log2 = m.log2 + (p + k + 1074).toNat := by
      rw [Nat.log2_eq_iff (by have := Nat.mul_pos hm (Nat.two_pow_pos (p + k + 1074).toNat); omega)]
      rw [show m.log2 + (p + k + 1074).toNat + 1 = (m.log2 + 1) + (p + k + 1074).toNat from by omega, Nat.pow_add, Nat.pow_add]
      exact ⟨Nat.mul_le_mul_right _ (Nat.log2_self_le (by omega)), Nat.mul_lt_mul_of_pos_right Nat.lt_log2_self (Nat.two_pow_pos _)⟩
    have b : (val r * 2 ^ k).log2 = (sig r).log2 + exq r + k := by
      unfold val
      rw [Nat.mul_assoc, ← Nat.pow_add]
      rw [Nat.log2_eq_iff (by have := Nat.mul_pos hs (Nat.two_pow_pos (exq r + k)); omega)]
      rw [show (sig r).log2 + exq r + k + 1 = ((sig r).log2 + 1) + (exq r + k) from by omega, show (sig r).log2 + exq r + k = (sig r).log2 + (exq r + k) from by omega, Nat.pow_add, Nat.pow_add 2 ((sig r).log2 + 1)]
      exact ⟨Nat.mul_le_mul_right _ (Nat.log2_self_le (by omega)), Nat.mul_lt_mul_of_pos_right Nat.lt_log2_self (Nat.two_pow_pos _)⟩
    rw [h, b] at a
    omega
  have hl := sig_log hr
  have hlast : max (p + m.log2 - double.fractionBits) double.leastPlace = (exq r : Int) - 1074 := by
    rw [dF, dL]
    by_cases e : r < 4503599627370496
    · have := hl.1 e; have := exq_small e; omega
    · have := hl.2 (by omega); omega
  have hkept : Toward.even.cut s (m <<< (p - ((exq r : Int) - 1074)).toNat) ((exq r : Int) - 1074 - p).toNat = sig r := by
    rw [Nat.shiftLeft_eq]
    by_cases hp : (exq r : Int) - 1074 ≤ p
    · rw [show ((exq r : Int) - 1074 - p).toNat = 0 from by omega]
      have e : m * 2 ^ (p - ((exq r : Int) - 1074)).toNat = sig r := by
        have e1 : (p + k + 1074).toNat = (p - ((exq r : Int) - 1074)).toNat + (exq r + k) := by omega
        unfold val at h
        rw [e1, Nat.pow_add, ← Nat.mul_assoc, Nat.mul_assoc (sig r), ← Nat.pow_add] at h
        exact Nat.eq_of_mul_eq_mul_right (Nat.two_pow_pos _) h
      rw [e]
      have := cut_even_exact s (sig r) 0 hs
      simpa using this
    · rw [show (p - ((exq r : Int) - 1074)).toNat = 0 from by omega]
      have e : m = sig r * 2 ^ ((exq r : Int) - 1074 - p).toNat := by
        have e1 : exq r + k = ((exq r : Int) - 1074 - p).toNat + (p + k + 1074).toNat := by omega
        unfold val at h
        rw [Nat.mul_assoc (sig r), ← Nat.pow_add, e1, Nat.pow_add, ← Nat.mul_assoc] at h
        exact Nat.eq_of_mul_eq_mul_right (Nat.two_pow_pos _) h
      have := cut_even_exact s (sig r) ((exq r : Int) - 1074 - p).toNat hs
      rw [← e] at this
      simpa using this
  unfold Format.nearest
  rw [if_neg (by omega)]
  rw [dL, dF] at hlast
  simp only [dB, dI, dL, dF]
  simp only [Int.cast_ofNat_Int] at hlast ⊢
  simp only [hlast, hkept]
  rw [show ((exq r : Int) - 1074 - -1074).toNat = exq r from by omega, rung_of, Nat.min_eq_left (by omega)]
end Go.Proofs.Pt
