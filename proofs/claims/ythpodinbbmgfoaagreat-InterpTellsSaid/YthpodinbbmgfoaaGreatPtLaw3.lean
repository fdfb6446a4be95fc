/-
  Plain laws on numbers with a point, third part: sums, products, quotients.
-/
import Derived.Test.YthpodinbbmgfoaaGreatPtLaw2
set_option linter.unusedVariables false
set_option linter.unusedSimpArgs false
namespace Go.Proofs.Pt
open Ieee

def negF (x : Nat) : Nat := clean (x ^^^ 9223372036854775808)

theorem xor_sign (x : Nat) : rung (x ^^^ 9223372036854775808) = rung x ∧ minus (x ^^^ 9223372036854775808) = !minus x := by
  have h1 := @Nat.xor_mod_two_pow x 9223372036854775808 63
  have h2 := @Nat.xor_div_two_pow x 9223372036854775808 63
  simp only [Nat.reducePow, Nat.reduceMod, Nat.reduceDiv, Nat.xor_zero] at h1 h2
  unfold rung minus
  rw [h1, h2]
  refine ⟨rfl, ?_⟩
  have h3 := @Nat.xor_mod_two_pow (x / 9223372036854775808) 1 1
  simp only [Nat.reducePow] at h3
  rw [h3]
  have : x / 9223372036854775808 % 2 = 0 ∨ x / 9223372036854775808 % 2 = 1 := by omega
  rcases this with h | h <;> rw [h] <;> rfl
theorem xor_lt {x : Nat} (h : x < 18446744073709551616) : x ^^^ 9223372036854775808 < 18446744073709551616 :=
  Nat.xor_lt_two_pow (n := 64) h (by decide)
theorem isBad_xor (x : Nat) : isBad (x ^^^ 9223372036854775808) = isBad x := by
  have := (xor_sign x).1
  unfold isBad; unfold rung at this; rw [this]
theorem negF_ok {x : Nat} (h : isBad x = false) : negF x = x ^^^ 9223372036854775808 := by
  unfold negF clean; rw [isBad_xor, h]; rfl
theorem negF_bad {x : Nat} (h : isBad x = true) : negF x = canon := by
  unfold negF clean; rw [isBad_xor, h]; rfl
theorem negF_lt {x : Nat} (h : x < 18446744073709551616) : negF x < 18446744073709551616 := clean_lt (xor_lt h)

theorem isBad_canon : isBad canon = true := by decide
theorem isBad_clean (x : Nat) : isBad (clean x) = isBad x := by
  unfold clean; split
  · rename_i h; rw [h]; exact isBad_canon
  · rfl
theorem clean_of_ok {x : Nat} (h : isBad x = false) : clean x = x := by simp [clean, h]
theorem clean_clean (x : Nat) : clean (clean x) = clean x := by
  by_cases h : isBad x = true
  · rw [clean_of_bad h]; decide
  · have hb : isBad x = false := by simpa using h
    rw [clean_of_ok hb, clean_of_ok hb]
theorem clean_opF (o : BinOp) (x y : Nat) : clean (opF o x y) = opF o x y := by
  unfold opF; split
  · exact clean_clean _
  · decide
theorem clean_negF (x : Nat) : clean (negF x) = negF x := clean_clean _
/-- What is clean is no nan but that one. -/
theorem clean_one {x : Nat} (h : clean x = x) : isBad x = false ∨ x = canon := by
  by_cases b : isBad x = true
  · right; rw [← h]; exact clean_of_bad b
  · left; simpa using b

theorem read_xor (x : Nat) : isBad x = false → double.read (x ^^^ 9223372036854775808) = (double.read x).opposite := by
  intro hb
  have hr := (isBad_not x).1 hb
  obtain ⟨h1, h2⟩ := xor_sign x
  by_cases f : rung x < 9218868437227405312
  · rw [read_fin (by rw [h1]; exact f), read_fin f, h1, h2]; rfl
  · have i : rung x = 9218868437227405312 := by omega
    rw [read_inf (by rw [h1]; exact i), read_inf i, h2]; rfl

theorem sum_comm (a b : Datum) : a.sum b = b.sum a := by
  cases a <;> cases b <;> simp only [Datum.sum]
  · rename_i s m i t n j
    rw [Int.min_comm i j, Int.add_comm (signed s m (i - min j i).toNat), Bool.and_comm s t]
  · rename_i s t
    by_cases h : s = t
    · subst h; simp
    · rw [if_neg h, if_neg (fun e => h e.symm)]
theorem product_comm (a b : Datum) : a.product b = b.product a := by
  cases a <;> cases b <;> simp only [Datum.product]
  · rename_i s m i t n j
    rw [Bool.xor_comm s t, Nat.mul_comm m n, Int.add_comm i j]
  · rename_i s t; rw [Bool.xor_comm s t]

theorem add_comm (x y : Nat) : opF .add x y = opF .add y x := by
  have : floatBits .add .f64 x y = floatBits .add .f64 y x := by
    show ((double.read x).sum (double.read y)).map double.write = ((double.read y).sum (double.read x)).map double.write
    rw [sum_comm]
  unfold opF; rw [this]
theorem mul_comm (x y : Nat) : opF .mul x y = opF .mul y x := by
  have : floatBits .mul .f64 x y = floatBits .mul .f64 y x := by
    show ((double.read x).product (double.read y)).map double.write = ((double.read y).product (double.read x)).map double.write
    rw [product_comm]
  unfold opF; rw [this]

theorem add_bad {x y : Nat} (h : isBad x = true ∨ isBad y = true) : opF .add x y = canon := by
  apply opF_none
  show ((double.read x).sum (double.read y)).map double.write = none
  rcases h with h | h
  · rw [read_nan ((isBad_iff x).1 h)]; rfl
  · rw [read_nan ((isBad_iff y).1 h)]; cases double.read x <;> rfl
theorem sub_bad {x y : Nat} (h : isBad x = true ∨ isBad y = true) : opF .sub x y = canon := by
  apply opF_none
  show ((double.read x).sum (double.read y).opposite).map double.write = none
  rcases h with h | h
  · rw [read_nan ((isBad_iff x).1 h)]; rfl
  · rw [read_nan ((isBad_iff y).1 h)]; cases double.read x <;> rfl
theorem mul_bad {x y : Nat} (h : isBad x = true ∨ isBad y = true) : opF .mul x y = canon := by
  apply opF_none
  show ((double.read x).product (double.read y)).map double.write = none
  rcases h with h | h
  · rw [read_nan ((isBad_iff x).1 h)]; rfl
  · rw [read_nan ((isBad_iff y).1 h)]; cases double.read x <;> rfl
theorem div_bad {x y : Nat} (h : isBad x = true ∨ isBad y = true) : opF .quo x y = canon := by
  apply opF_none
  show ((double.read x).quotient (double.fractionBits + 2) (double.read y)).map double.write = none
  rcases h with h | h
  · rw [read_nan ((isBad_iff x).1 h)]; rfl
  · rw [read_nan ((isBad_iff y).1 h)]; cases double.read x <;> rfl

theorem sub_add_neg (x y : Nat) : opF .sub x y = opF .add x (negF y) := by
  by_cases h : isBad y = true
  · rw [sub_bad (.inr h), negF_bad h, add_bad (.inr isBad_canon)]
  · have h' : isBad y = false := by simpa using h
    rw [negF_ok h']
    have : floatBits .sub .f64 x y = floatBits .add .f64 x (y ^^^ 9223372036854775808) := by
      show ((double.read x).sum (double.read y).opposite).map double.write = ((double.read x).sum (double.read (y ^^^ 9223372036854775808))).map double.write
      rw [read_xor y h']
    unfold opF; rw [this]

/-- An operation whose value is exactly a finite rung's. -/
theorem opF_exact {o : BinOp} {x y : Nat} {s : Bool} {m r k : Nat} {p : Int} (ho : floatBits o .f64 x y = some (double.nearest s m p)) (hr : 0 < r) (hinf : r < 9218868437227405312)
    (hk : (-1074 : Int) ≤ p + k) (h : m * 2 ^ (p + k + 1074).toNat = val r * 2 ^ k) : opF o x y = double.word s r := by
  rw [opF_some ho, nearest_exact s hr hinf hk h]
  apply clean_of_ok
  rw [isBad_not, rung_word (by omega)]; omega

theorem nearest_zero (s : Bool) (p : Int) : double.nearest s 0 p = double.word s 0 := by unfold Format.nearest; rfl
theorem word_ok (s : Bool) {r : Nat} (h : r ≤ 9218868437227405312) : isBad (double.word s r) = false := by rw [isBad_not, rung_word (by omega)]; exact h

def oneF : Nat := 4607182418800017408
theorem read_one : double.read oneF = .number false 4503599627370496 (-52) := by decide
theorem read_mone : double.read (9223372036854775808 + oneF) = .number true 4503599627370496 (-52) := by decide

theorem mul_pm_one {x : Nat} (t : Bool) (y : Nat) (hy : double.read y = .number t 4503599627370496 (-52)) :
    opF .mul x y = if isBad x then canon else double.word (minus x ^^ t) (rung x) := by
  rcases kinds x with f | i | b
  · have hb : isBad x = false := by rw [isBad_not]; omega
    rw [hb]
    have ho : floatBits .mul .f64 x y = some (double.nearest (minus x ^^ t) (sig (rung x) * 4503599627370496) ((exq (rung x) : Int) - 1074 + -52)) := by
      show ((double.read x).product (double.read y)).map double.write = _
      rw [read_fin f, hy]; rfl
    simp only [Bool.false_eq_true, if_false]
    rcases Nat.eq_zero_or_pos (rung x) with z | z
    · rw [opF_some ho, z, sig_zero, Nat.zero_mul, nearest_zero]
      exact clean_of_ok (word_ok _ (by omega))
    · refine opF_exact ho z f (k := 52) (by omega) ?_
      unfold val
      rw [Nat.mul_assoc, Nat.mul_assoc, show (4503599627370496 : Nat) = 2 ^ 52 from by decide, ← Nat.pow_add, ← Nat.pow_add]
      congr 2; omega
  · have hb : isBad x = false := by rw [isBad_not]; omega
    rw [hb]
    have ho : floatBits .mul .f64 x y = some (double.word (minus x ^^ t) double.infRung) := by
      show ((double.read x).product (double.read y)).map double.write = _
      rw [read_inf i, hy]; rfl
    rw [opF_some ho, dI, i]
    exact clean_of_ok (word_ok _ (by omega))
  · rw [mul_bad (.inl b), b]; rfl

theorem mul_one {x : Nat} (hx : x < 18446744073709551616) : opF .mul x oneF = clean x := by
  rw [mul_pm_one false oneF read_one]
  unfold clean; split
  · rfl
  · rw [Bool.xor_false, word_of hx]
theorem mul_mone {x : Nat} (hx : x < 18446744073709551616) : opF .mul x (9223372036854775808 + oneF) = negF x := by
  rw [mul_pm_one true _ read_mone]
  unfold negF clean; rw [isBad_xor]; split
  · rfl
  · rw [Bool.xor_true, ← (xor_sign x).2]
    have := word_of (xor_lt hx)
    rw [(xor_sign x).1] at this; exact this

theorem div_one {x : Nat} (hx : x < 18446744073709551616) : opF .quo x oneF = clean x := by
  rcases kinds x with f | i | b
  · have hb : isBad x = false := by rw [isBad_not]; omega
    rw [clean_of_ok hb]
    have hl : (4503599627370496 : Nat).log2 = 52 := by decide
    have hsl : (sig (rung x)).log2 ≤ 52 := by
      rcases Nat.eq_zero_or_pos (rung x) with z | z
      · rw [z, sig_zero]; decide
      · have := sig_log z; omega
    have hmod : sig (rung x) * 2 ^ (54 + 52 - (sig (rung x)).log2) = (sig (rung x) * 2 ^ (54 - (sig (rung x)).log2)) * 4503599627370496 := by
      rw [show (4503599627370496 : Nat) = 2 ^ 52 from by decide, Nat.mul_assoc, ← Nat.pow_add]
      congr 2; omega
    have ho : floatBits .quo .f64 x oneF = some (double.nearest (minus x) (2 * (sig (rung x) * 2 ^ (54 - (sig (rung x)).log2))) ((exq (rung x) : Int) - 1074 - -52 - ((54 + 52 - (sig (rung x)).log2 : Nat) : Int) - 1)) := by
      show ((double.read x).quotient (double.fractionBits + 2) (double.read oneF)).map double.write = _
      rw [read_fin f, read_one, dF]
      simp only [Datum.quotient, hl, Nat.shiftLeft_eq, Nat.reduceAdd]
      rw [show (106 : Nat) = 54 + 52 from rfl, hmod, Nat.mul_div_cancel _ (by decide), Nat.mul_mod_left]
      simp [Format.write]
    rcases Nat.eq_zero_or_pos (rung x) with z | z
    · rw [opF_some ho, z, sig_zero, Nat.zero_mul, Nat.mul_zero, nearest_zero]
      rw [clean_of_ok (word_ok _ (by omega))]
      have := word_of hx; rw [z] at this; exact this
    · rw [opF_exact ho z f (k := 110) (by omega) ?_, word_of hx]
      unfold val
      rw [Nat.mul_comm 2, Nat.mul_assoc, Nat.mul_assoc, Nat.mul_assoc, ← Nat.pow_succ', ← Nat.pow_add, ← Nat.pow_add]
      congr 2; omega
  · have hb : isBad x = false := by rw [isBad_not]; omega
    rw [clean_of_ok hb]
    have ho : floatBits .quo .f64 x oneF = some (double.word (minus x) double.infRung) := by
      show ((double.read x).quotient (double.fractionBits + 2) (double.read oneF)).map double.write = _
      rw [read_inf i, read_one]; simp [Datum.quotient, Format.write]
    rw [opF_some ho, dI, ← i, word_of hx]
    exact clean_of_ok hb
  · rw [div_bad (.inl b), clean_of_bad b]

theorem read_zero : double.read 0 = .number false 0 (-1074) := by decide

theorem add_zero {x : Nat} (hx : x < 18446744073709551616) (hz : rung x ≠ 0) : opF .add x 0 = clean x := by
  rcases kinds x with f | i | b
  · have hb : isBad x = false := by rw [isBad_not]; omega
    rw [clean_of_ok hb]
    have hp : 0 < rung x := by omega
    have hv := val_pos hp
    have hmin : min ((exq (rung x) : Int) - 1074) (-1074) = -1074 := by omega
    have hsig : signed (minus x) (sig (rung x)) ((exq (rung x) : Int) - 1074 - -1074).toNat = if minus x then -(val (rung x) : Int) else (val (rung x) : Int) := by
      have := signed_val (minus x) (rung x) (-1074) (by omega) (by omega)
      simpa using this
    have hzero : signed false 0 ((-1074 : Int) - -1074).toNat = 0 := by decide
    have ho : floatBits .add .f64 x 0 = some (double.nearest (minus x) (val (rung x)) (-1074)) := by
      show ((double.read x).sum (double.read 0)).map double.write = _
      rw [read_fin f, read_zero]
      simp only [Datum.sum, hmin, hsig, hzero, Int.add_zero, Option.map_some, Format.write, Option.some.injEq]
      generalize val (rung x) = v at *
      have hv0 : ¬ (v : Int) = 0 := by omega
      cases minus x
      · have : ¬ (v : Int) < 0 := by omega
        simp [this]
      · have : ¬ v = 0 := by omega
        simp [this, hv]
    rw [opF_exact ho hp f (k := 0) (by omega) (by simp), word_of hx]
  · have hb : isBad x = false := by rw [isBad_not]; omega
    rw [clean_of_ok hb]
    have ho : floatBits .add .f64 x 0 = some (double.word (minus x) double.infRung) := by
      show ((double.read x).sum (double.read 0)).map double.write = _
      rw [read_inf i, read_zero]; rfl
    rw [opF_some ho, dI, ← i, word_of hx]
    exact clean_of_ok hb
  · rw [add_bad (.inl b), clean_of_bad b]

theorem sub_self_fin {x : Nat} (f : rung x < 9218868437227405312) : opF .sub x x = 0 := by
  have ho : floatBits .sub .f64 x x = some 0 := by
    show ((double.read x).sum (double.read x).opposite).map double.write = _
    rw [read_fin f]
    simp only [Datum.opposite, Datum.sum, Option.map_some, Format.write, Option.some.injEq]
    have : ∀ (s : Bool) (m n : Nat), signed s m n + signed (!s) m n = 0 := by
      intro s m n; unfold signed; cases s <;> simp <;> omega
    simp only [this, if_true, Int.natAbs_zero]
    rw [nearest_zero, word_d]; cases minus x <;> rfl
  rw [opF_some ho]; decide
theorem sub_self_bad {x : Nat} (f : ¬ rung x < 9218868437227405312) : opF .sub x x = canon := by
  rcases kinds x with h | i | b
  · exact absurd h f
  · apply opF_none
    show ((double.read x).sum (double.read x).opposite).map double.write = _
    rw [read_inf i]
    simp only [Datum.opposite, Datum.sum]
    cases minus x <;> rfl
  · exact sub_bad (.inl b)
theorem div_self_bad {x : Nat} (f : ¬ rung x < 9218868437227405312) : opF .quo x x = canon := by
  rcases kinds x with h | i | b
  · exact absurd h f
  · apply opF_none
    show ((double.read x).quotient _ (double.read x)).map double.write = _
    rw [read_inf i]; rfl
  · exact div_bad (.inl b)
theorem div_self_zero {x : Nat} (z : rung x = 0) : opF .quo x x = canon := by
  apply opF_none
  show ((double.read x).quotient _ (double.read x)).map double.write = _
  rw [read_fin (by omega), z]
  simp [Datum.quotient, sig_zero]
theorem val_one : val oneF = 2 ^ 1074 := by decide +kernel
theorem div_self_fin {x : Nat} (f : rung x < 9218868437227405312) (z : rung x ≠ 0) : opF .quo x x = oneF := by
  have hs := sig_pos (r := rung x) (by omega)
  have ho : floatBits .quo .f64 x x = some (double.nearest false (2 * 2 ^ 54) (-55)) := by
    show ((double.read x).quotient (double.fractionBits + 2) (double.read x)).map double.write = _
    rw [read_fin f, dF]
    simp only [Datum.quotient, if_neg (by omega : ¬ sig (rung x) = 0)]
    rw [show 52 + 2 + (sig (rung x)).log2 - (sig (rung x)).log2 = 54 from by omega, Nat.shiftLeft_eq, Nat.mul_div_cancel_left _ hs, Nat.mul_mod_right]
    simp [Format.write]
  rw [opF_exact ho (r := oneF) (by decide) (by decide) (k := 0) (by omega) (by rw [val_one]; decide +kernel)]
  decide
end Go.Proofs.Pt
