/-
  What the laws' programs come to. No walk here.
-/
import Derived.Test.YthpodinbbmgfoaaGreatIpRun
import Derived.KernelRfl
set_option linter.unusedVariables false
set_option linter.unusedSimpArgs false
namespace Go.Proofs.Ip
open Go Go.RowKit Go.Proofs.Pt Go.Proofs.Pg Go.Proofs.Cd
/-- doF of a program that may be. -/
def doS (l : List Inst) (t : Th) (b : Nat → Bool) (q : Nat → Nat → Nat) : Th × (Nat → Nat → Nat) × Int :=
  if (decide (0 ≤ t.pc) && decide (t.pc < l.length) && decide (t.S.length ≤ 32) && decide (t.C.length ≤ 16)) = true then
    (let x := l.getD t.pc.toNat (1, 0)
     if isMove x.1 then ((moveF x.1 x.2 t).1, q, (moveF x.1 x.2 t).2) else restF x.1 x.2 t b q)
  else (t, q, 290)
theorem doF_S {l : List Inst} (hc : Cd.chk l = true) (t : Th) (b : Nat → Bool) (q : Nat → Nat → Nat) : doF l t b q = doS l t b q := by
  unfold doF doS inB
  rw [hc, Bool.and_true]
def runS (l : List Inst) (b : Nat → Bool) : Nat → Th → (Nat → Nat → Nat) → Th × Int
  | 0, t, _ => (t, 0)
  | n + 1, t, q => if (doS l t b q).2.2 ≠ 0 then (t, (doS l t b q).2.2) else runS l b n (doS l t b q).1 (doS l t b q).2.1
theorem runF_S {l : List Inst} (hc : Cd.chk l = true) (b : Nat → Bool) : ∀ (n : Nat) (t : Th) (q : Nat → Nat → Nat), runF l b n t q = runS l b n t q
  | 0, _, _ => rfl
  | n + 1, t, q => by rw [runF, runS, doF_S hc, runF_S hc b n]
def P1 : List Inst := [(1, 2), (1, 3), (22, 4), (0, 0), (7, 0), (23, 0)]
def P2 : List Inst := [(1, 3), (1, 9), (25, 0), (1, 3), (24, 0), (37, 0), (0, 0)]
def P3 : List Inst := [(6, 0), (0, 0)]
def P4 : List Inst := [(1, 1), (3, 0), (20, 1)]
def P5 : List Inst := [(1, 1), (1, 0), (9, 0), (0, 0)]
theorem r1 : runF P1 b0 20 th0 noWords = (⟨0, 3, [18446744073709551615], [], 0, 0, 0⟩, 310) := by rw [runF_S (by decide)]; kernel_rfl
theorem r2 : runF P2 b0 20 th0 noWords = (⟨0, 5, [9], [], 0, 0, 0⟩, 302) := by rw [runF_S (by decide)]; kernel_rfl
theorem r3 : (runF P3 b0 5 th0 noWords).2 = 300 := by rw [runF_S (by decide)]; kernel_rfl
theorem r4 : (runF P4 b0 100 th0 noWords).2 = 300 := by rw [runF_S (by decide)]; kernel_rfl
theorem r5 : (runF P5 b0 9 th0 noWords).2 = 301 := by rw [runF_S (by decide)]; kernel_rfl
/-! Sums. -/
def PA (w v : Nat) : List Inst := [(1, w), (1, v), (6, 0), (1, v), (7, 0), (0, 0)]
def PB (w v : Nat) : List Inst := [(1, w), (1, v), (9, 0), (1, v), (8, 0), (1, w), (1, v), (10, 0), (6, 0), (0, 0)]
def PC (w k : Nat) : List Inst := [(1, w), (1, k), (15, 0), (1, k), (14, 0), (0, 0)]
section
variable {w v : Nat} (hw : w < 18446744073709551616) (hv : v < 18446744073709551616)
include hw hv
theorem chkA : Cd.chk (PA w v) = true := by simp [Cd.chk, PA, okI, bel, isEnd, hw, hv]
theorem chkB : Cd.chk (PB w v) = true := by simp [Cd.chk, PB, okI, bel, isEnd, hw, hv]
theorem chkC : Cd.chk (PC w v) = true := by simp [Cd.chk, PC, okI, bel, isEnd, hw, hv]
theorem rA : runF (PA w v) b0 9 th0 noWords = (⟨0, 5, [w], [], 0, 0, 0⟩, 310) := by
  have h : runF (PA w v) b0 9 th0 noWords = (⟨0, 5, [((w + v) % 18446744073709551616 + (18446744073709551616 - v)) % 18446744073709551616], [], 0, 0, 0⟩, 310) := by rw [runF_S (chkA hw hv)]; kernel_rfl
  rw [h, show ((w + v) % 18446744073709551616 + (18446744073709551616 - v)) % 18446744073709551616 = w from by omega]
theorem rB (h0 : v ≠ 0) : runF (PB w v) b0 12 th0 noWords = (⟨0, 9, [w], [], 0, 0, 0⟩, 310) := by
  obtain ⟨u, rfl⟩ : ∃ u, v = u + 1 := ⟨v - 1, by omega⟩
  have h : runF (PB w (u + 1)) b0 12 th0 noWords = (⟨0, 9, [(w / (u + 1) * (u + 1) % 18446744073709551616 + w % (u + 1)) % 18446744073709551616], [], 0, 0, 0⟩, 310) := by rw [runF_S (chkB hw hv)]; kernel_rfl
  have e := Nat.div_add_mod' w (u + 1)
  have e2 : w / (u + 1) * (u + 1) ≤ w := Nat.div_mul_le_self _ _
  rw [h, Nat.mod_eq_of_lt (show w / (u + 1) * (u + 1) < 18446744073709551616 by omega), e, Nat.mod_eq_of_lt hw]
theorem rC : runF (PC w v) b0 9 th0 noWords = (⟨0, 5, [w / 2 ^ v * 2 ^ v], [], 0, 0, 0⟩, 310) := by
  have h : runF (PC w v) b0 9 th0 noWords = (⟨0, 5, [w / 2 ^ v * 2 ^ v % 18446744073709551616], [], 0, 0, 0⟩, 310) := by rw [runF_S (chkC hw hv)]; kernel_rfl
  have e2 : w / 2 ^ v * 2 ^ v ≤ w := Nat.div_mul_le_self _ _
  rw [h, Nat.mod_eq_of_lt (by omega)]
end
theorem rB0 {w : Nat} (hw : w < 18446744073709551616) : (runF (PB w 0) b0 12 th0 noWords).2 = 301 := by rw [runF_S (chkB hw (by decide))]; kernel_rfl
/-! Numbers with a point. -/
def PF (op : Int) (w v : Nat) : List Inst := [(1, w), (1, v), (op, 0), (0, 0)]
def PG (w v : Nat) : List Inst := [(1, w), (1, v), (32, 0), (1, w), (1, v), (33, 0), (1, w), (34, 0), (1, v), (36, 0), (0, 0)]
section
variable {w v : Nat} (hw : w < 18446744073709551616) (hv : v < 18446744073709551616)
include hw hv
theorem rF {op : Int} (ho : op = 26 ∨ op = 27 ∨ op = 28 ∨ op = 29 ∨ op = 30 ∨ op = 31) : runF (PF op w v) b0 5 th0 noWords = (⟨0, 3, [twoF op w v], [], 0, 0, 0⟩, 310) := by
  have hc : Cd.chk (PF op w v) = true := by rcases ho with rfl | rfl | rfl | rfl | rfl | rfl <;> simp [Cd.chk, PF, okI, bel, isEnd, hw, hv]
  rcases ho with rfl | rfl | rfl | rfl | rfl | rfl
  · have h : runF (PF 26 w v) b0 5 th0 noWords = (⟨0, 3, [twoF 26 w v], [], 0, 0, 0⟩, 310) := by rw [runF_S hc]; kernel_rfl
    exact h
  · have h : runF (PF 27 w v) b0 5 th0 noWords = (⟨0, 3, [twoF 27 w v], [], 0, 0, 0⟩, 310) := by rw [runF_S hc]; kernel_rfl
    exact h
  · have h : runF (PF 28 w v) b0 5 th0 noWords = (⟨0, 3, [twoF 28 w v], [], 0, 0, 0⟩, 310) := by rw [runF_S hc]; kernel_rfl
    exact h
  · have h : runF (PF 29 w v) b0 5 th0 noWords = (⟨0, 3, [twoF 29 w v], [], 0, 0, 0⟩, 310) := by rw [runF_S hc]; kernel_rfl
    exact h
  · have h : runF (PF 30 w v) b0 5 th0 noWords = (⟨0, 3, [twoF 30 w v], [], 0, 0, 0⟩, 310) := by rw [runF_S hc]; kernel_rfl
    exact h
  · have h : runF (PF 31 w v) b0 5 th0 noWords = (⟨0, 3, [twoF 31 w v], [], 0, 0, 0⟩, 310) := by rw [runF_S hc]; kernel_rfl
    exact h
theorem rG : runF (PG w v) b0 12 th0 noWords = (⟨0, 10, [bit (ltF w v), bit (eqF w v), negF w, toW v], [], 0, 0, 0⟩, 310) := by
  have hc : Cd.chk (PG w v) = true := by simp [Cd.chk, PG, okI, bel, isEnd, hw, hv]
  have h : runF (PG w v) b0 12 th0 noWords = (⟨0, 10, [bit (ltF w v), bit (eqF w v), negF w, toW v], [], 0, 0, 0⟩, 310) := by rw [runF_S hc]; kernel_rfl
  exact h
end
end Go.Proofs.Ip
