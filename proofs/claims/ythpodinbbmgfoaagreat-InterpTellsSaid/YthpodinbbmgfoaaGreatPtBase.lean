/-
  Plain words for numbers with a point by their 64 bits, and two laws on float operations that draw. No program in sight.
-/
import Derived.Laws.FloatArith
import Derived.WalkKit
import Derived.Deep.Draws
set_option linter.unusedVariables false
set_option linter.unusedSimpArgs false
namespace Go.Proofs.Pt

/-- Is it a nan's bits? -/
def isBad (x : Nat) : Bool := decide (9218868437227405312 < x % 9223372036854775808)
def canon : Nat := 9221120237041090560
def clean (x : Nat) : Nat := if isBad x then canon else x
/-- What an operation on floats comes to, cleaned. -/
def opF (o : BinOp) (x y : Nat) : Nat := match floatBits o .f64 x y with | some r => clean r | none => canon
def arith (o : BinOp) : Bool := match o with | .add | .sub | .mul | .quo => true | _ => false

theorem u64_mask (x : Nat) (hx : x < 18446744073709551616) : bits .andNot .u64 (x : Int) 9223372036854775808 = ((x % 9223372036854775808 : Nat) : Int) := by
  have h := u64_andNot_nat x 9223372036854775808 hx (by decide)
  have e : (18446744073709551615 - 9223372036854775808 : Nat) = 2 ^ 63 - 1 := by decide
  rw [e, Nat.and_two_pow_sub_one_eq_mod] at h
  exact h

theorem nan_num (a b : Nat) (ha : a < 4503599627370495) (hb : b < 2) :
    9218868437227405312 < (b * 9223372036854775808 + 9218868437227405312 + 1 + a) % 9223372036854775808 ∧ b * 9223372036854775808 + 9218868437227405312 + 1 + a < 18446744073709551616 := by
  have : b = 0 ∨ b = 1 := by omega
  rcases this with rfl | rfl <;> omega
/-- A nan that the tape gives is a nan. -/
theorem cut_bad (x y t : Nat) : isBad ((Question.nanBits .f64 x y).cut t) = true ∧ (Question.nanBits .f64 x y).cut t < 18446744073709551616 := by
  have h1 : t % 2 < 2 := Nat.mod_lt _ (by decide)
  have h2 : t / 2 % 4503599627370495 < 4503599627370495 := Nat.mod_lt _ (by decide)
  have h := nan_num _ _ h2 h1
  exact ⟨decide_eq_true h.1, h.2⟩

theorem canon_lt : canon < 18446744073709551616 := by decide
theorem clean_lt {x : Nat} (h : x < 18446744073709551616) : clean x < 18446744073709551616 := by
  unfold clean; split
  · exact canon_lt
  · exact h
theorem clean_of_bad {x : Nat} (h : isBad x = true) : clean x = canon := by simp [clean, h]
theorem floatBits_lt {o : BinOp} {x y r : Nat} (h : floatBits o .f64 x y = some r) : r < 18446744073709551616 := by
  have := floatBits_wf h
  simpa [Lit.wf] using this
theorem opF_lt (o : BinOp) (x y : Nat) : opF o x y < 18446744073709551616 := by
  unfold opF; split
  · rename_i r h; exact clean_lt (floatBits_lt h)
  · exact canon_lt
theorem opF_some {o : BinOp} {x y r : Nat} (h : floatBits o .f64 x y = some r) : opF o x y = clean r := by simp [opF, h]
theorem opF_none {o : BinOp} {x y : Nat} (h : floatBits o .f64 x y = none) : opF o x y = canon := by simp [opF, h]

section
variable {P : Program} (w : World)
/-- An operation that has no answer: some nan, off the tape. -/
theorem run_float_nan (o : BinOp) (ho : arith o = true) (t : TypeId) (x y : Nat) (h : floatBits o .f64 x y = none) :
    (binOp o t (.float .f64 x) (.float .f64 y)).run P w = .ok (.float .f64 ((Question.nanBits .f64 x y).cut (w.tape w.drawn (.nanBits .f64 x y)))) w.drew := by
  unfold floatBits at h
  cases o <;> simp only [arith, Bool.false_eq_true] at ho <;> simp only at h <;> (simp only [binOp, Op.floatArith, h]; rfl)
end

/-- What a float function of two numbers answers: the operation's value, or some nan; the world but for draws as it was. -/
def FRes (o : BinOp) (x y : Nat) (w : World) (e : Ending) (w' : World) : Prop :=
  ∃ r n, e = .returned (.float .f64 r) ∧ w' = w.drewN n ∧ r < 18446744073709551616 ∧ clean r = opF o x y
end Go.Proofs.Pt
