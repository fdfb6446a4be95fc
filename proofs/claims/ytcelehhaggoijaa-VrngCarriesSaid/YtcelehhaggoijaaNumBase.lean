/-
  Plain words for numbers as bytes. No program in sight.
-/
import Derived.Test.YtcelehhaggoijaaRd
import Derived.Test.YtcelehhaggoijaaKit2
set_option linter.unusedVariables false
set_option linter.unusedSimpArgs false
namespace Go
open Go.RowKit
section
variable {P : Program} {ops : Array Oper} {rest : List Oper} {a : Act} {w : World} {Q : Exit → Act → World → Prop}
variable {dst : Option Tmp} {ty T : TypeId} {pos : String} {after : Array Edge} {g : Option (Nat × Bool)} {x y : Operand}
theorem at_mkslice (h : wpList P ops Q (⟨dst, .makeSlice T x y, ty, pos, after, g⟩ :: rest) a w) : wpList P ops Q (⟨dst, .makeSlice T x y, ty, pos, after, g⟩ :: rest) a w := h
theorem wl_mkb {o : Oper} (hgd : Region.wanted o (yielded ops a.tmps) = true) (z : Array Value) (t : TypeId) (n cap : Nat)
    (hr : ∀ w, (execOp a.eval o).run P w = .ok (.value (.slice (some ⟨w.heap.size, 0, none⟩) n cap)) (w.alloc (.cells z t)))
    (h : ∀ b w', MadeAt w w' b z → wpList P ops Q rest (a.put o.dst (.slice (some ⟨b, 0, none⟩) n cap)) w') : wpList P ops Q (o :: rest) a w :=
  wpList_want hgd fun K hK => by
    unfold Oper.wp
    rw [hr w]
    exact hK _ _ (h _ _ ⟨rfl, made_alloc w z t⟩)
end
namespace Proofs.Nm
/-- The lowest k bytes of a number, the lowest first. -/
def leB (n k : Nat) : List Nat := (List.range k).map fun i => n / 256 ^ i % 256
theorem leB_succ (n k : Nat) : leB n (k + 1) = leB n k ++ [n / 256 ^ k % 256] := by unfold leB; rw [List.range_succ, List.map_append]; rfl
theorem leB_len (n k : Nat) : (leB n k).length = k := by simp [leB]
def cellsB (l : List Nat) : List Value := l.map fun b => Value.int .u8 (b : Nat)
def putRow (n k : Nat) : Array Value := ((List.range 8).map fun i => Value.int .u8 ((if i < k then n / 256 ^ i % 256 else 0 : Nat) : Int)).toArray
theorem cellsB_len (l : List Nat) : (cellsB l).length = l.length := by simp [cellsB]
theorem cellsB_snoc (l : List Nat) (x : Nat) : cellsB (l ++ [x]) = cellsB l ++ [.int .u8 (x : Nat)] := by simp [cellsB]
theorem pow8 (k : Nat) : (2 : Int) ^ (8 * k) = ((256 ^ k : Nat) : Int) := by
  have : (256 : Nat) ^ k = 2 ^ (8 * k) := (Nat.pow_mul 2 8 k).symm
  rw [this, Int.natCast_pow]; rfl
theorem byte_at (n k : Nat) : ((n : Int) / 2 ^ (8 * k) % 256) = ((n / 256 ^ k % 256 : Nat) : Int) := by rw [pow8, Int.natCast_emod, Int.natCast_ediv]; rfl
theorem size_putRow (n k : Nat) : (putRow n k).size = 8 := by simp [putRow]
theorem get_putRow (n k i : Nat) : (putRow n k)[i]? = if i < 8 then some (Value.int .u8 ((if i < k then n / 256 ^ i % 256 else 0 : Nat) : Int)) else none := by
  unfold putRow
  by_cases h : i < 8
  · rw [if_pos h]; simp [h]
  · rw [if_neg h]; simp; omega
theorem putRow_zero (n : Nat) : putRow n 0 = putRow 0 0 := by
  apply Array.ext_getElem?
  intro i
  rw [get_putRow, get_putRow]; simp
theorem set_putRow {n k : Nat} (h : k < 8) : (putRow n k).setIfInBounds k (.int .u8 ((n / 256 ^ k % 256 : Nat) : Int)) = putRow n (k + 1) := by
  apply Array.ext_getElem?
  intro i
  rw [Array.getElem?_setIfInBounds, get_putRow, get_putRow, size_putRow]
  by_cases h1 : k = i
  · subst h1; rw [if_pos rfl, if_pos h, if_pos h, if_pos (by omega)]
  · rw [if_neg h1]
    by_cases h2 : i < 8
    · rw [if_pos h2, if_pos h2]
      by_cases h3 : i < k
      · rw [if_pos h3, if_pos (by omega)]
      · rw [if_neg h3, if_neg (by omega)]
    · rw [if_neg h2, if_neg h2]
theorem putRow_full (n : Nat) : (putRow n 8).toList = cellsB (leB n 8) := by
  apply List.ext_getElem?
  intro i
  rw [Array.getElem?_toList, get_putRow]
  unfold cellsB leB
  by_cases h : i < 8
  · rw [if_pos h, if_pos h]; simp [h]
  · rw [if_neg h, List.getElem?_eq_none (by simp; omega)]
end Proofs.Nm
end Go
