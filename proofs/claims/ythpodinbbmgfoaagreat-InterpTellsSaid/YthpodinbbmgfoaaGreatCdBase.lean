/-
  Plain words for programs of instructions: as cells, as bytes; which may be. No program in sight.
-/
import Derived.Test.YthpodinbbmgfoaaGreatRd
set_option linter.unusedVariables false
set_option linter.unusedSimpArgs false
namespace Go.Proofs.Cd
open Go
abbrev Inst := Int × Nat
def enI (x : Inst) : List Value := [.int .i64 x.1, .int .u64 x.2]
theorem len_enI (x : Inst) : (enI x).length = 2 := rfl
def goodI (x : Inst) : Prop := -9223372036854775808 ≤ x.1 ∧ x.1 ≤ 9223372036854775807 ∧ x.2 < 18446744073709551616
/-- A program's cells. -/
def cellsI (l : List Inst) : List Value := l.flatMap enI
theorem len_cellsI (l : List Inst) : (cellsI l).length = l.length * 2 := len_flat len_enI l
theorem get_op (l : List Inst) {i : Nat} (h : i < l.length) : (cellsI l)[i * 2]? = some (.int .i64 (l[i]).1) := by
  have := get_flat len_enI l i 0 (by omega)
  rw [Nat.add_zero, List.getElem?_eq_getElem h] at this; exact this
theorem get_arg (l : List Inst) {i : Nat} (h : i < l.length) : (cellsI l)[i * 2 + 1]? = some (.int .u64 (l[i]).2) := by
  have := get_flat len_enI l i 1 (by omega)
  rw [List.getElem?_eq_getElem h] at this; exact this
def isEnd (op : Int) : Bool := op == 0 || op == 20 || op == 23
/-- Below which number an Arg has to be; 0: there is none. -/
def bel (op : Int) (n : Nat) : Nat := if op = 1 then 18446744073709551616 else if op = 20 ∨ op = 21 ∨ op = 22 then n else if op = 5 then 32 else if op = 37 then 18 else 1
def okI (n : Nat) (x : Inst) : Bool := decide (0 ≤ x.1) && decide (x.1 ≤ 37) && decide (x.2 < bel x.1 n)
def chk (l : List Inst) : Bool := decide (1 ≤ l.length) && decide (l.length ≤ 128) && isEnd (l.getD (l.length - 1) (1, 0)).1 && l.all (okI l.length)
theorem chk_of {l : List Inst} (h1 : 1 ≤ l.length) (h2 : l.length ≤ 128) (h3 : isEnd (l.getD (l.length - 1) (1, 0)).1 = true) (h4 : ∀ i (h : i < l.length), okI l.length l[i] = true) : chk l = true := by
  unfold chk
  rw [decide_eq_true h1, decide_eq_true h2, h3]
  simp only [Bool.true_and, List.all_eq_true]
  intro x hx
  obtain ⟨i, hi, rfl⟩ := List.mem_iff_getElem.1 hx
  exact h4 i hi
theorem chk_short {l : List Inst} (h : l.length < 1) : chk l = false := by unfold chk; rw [decide_eq_false (by omega)]; rfl
theorem chk_long {l : List Inst} (h : 128 < l.length) : chk l = false := by unfold chk; rw [decide_eq_false (p := l.length ≤ 128) (by omega)]; simp
theorem chk_end {l : List Inst} (h : isEnd (l.getD (l.length - 1) (1, 0)).1 = false) : chk l = false := by unfold chk; rw [h]; simp
theorem chk_one {l : List Inst} {i : Nat} (hi : i < l.length) (h : okI l.length l[i] = false) : chk l = false := by
  unfold chk
  have : l.all (okI l.length) = false := by
    by_cases g : l.all (okI l.length) = true
    · rw [List.all_eq_true.1 g _ (List.getElem_mem hi)] at h; cases h
    · simpa using g
  rw [this]; simp
end Go.Proofs.Cd
