/-
 Plain words for numbers as bytes. No program in sight.
-/
import Derived.Test.YtjmibgomkgkhnaaGreatRd
import Derived.Test.YtjmibgomkgkhnaaGreatKit2
set_option linter.unusedVariables false
set_option linter.unusedSimpArgs false
namespace Go
open Go.RowKit
section
variable {P : Program} {ops : Array Oper} {rest : List Oper} {a : Act} {w : World} {Q : Exit → Act → World → Prop}
variable {dst : Option Tmp} {ty T : TypeId} {pos : String} {after : Array Edge} {g : Option (Nat × Bool)} {x y : Operand}
theorem at_mkslice (h : wpList P ops Q (⟨dst, .makeSlice T x y, ty, pos, after, g⟩ :: rest) a w) : wpList P ops Q (⟨dst, .makeSlice T x y, ty, pos, after, g⟩ :: rest) a w := h
theorem wl_mkb {o : Oper} (hgd : Region.wanted o (yielded ops a.tmps) = true) (z : Array Value) (t : TypeId) (n cap : Nat)
   (hr : ∀ w, (execOp a.eval o).run P w = .ok (.value (.slice (some ⟨w.heap.size, 0, none⟩) n cap)) (w.alloc (.cells z t)))
   (h : ∀ b w', MadeAt w w' b z → wpList P ops Q rest (a.put o.dst (.slice (some ⟨b, 0, none⟩) n cap)) w') : wpList P ops Q (o :: rest) a w :=
 wpList_want hgd fun K hK => by
   unfold Oper.wp
   rw [hr w]
   exact hK _ _ (h _ _ ⟨rfl, made_alloc w z t⟩)
end
namespace Proofs.Nm
def leB (n k : Nat) : List Nat := (List.range k).map fun i => n / 256 ^ i % 256
theorem leB_len (n k : Nat) : (leB n k).length = k := by simp [leB]
def cellsB (l : List Nat) : List Value := l.map fun b => Value.int .u8 (b : Nat)
def putRow (n k : Nat) : Array Value := ((List.range 8).map fun i => Value.int .u8 ((if i < k then n / 256 ^ i % 256 else 0 : Nat) : Int)).toArray
theorem cellsB_len (l : List Nat) : (cellsB l).length = l.length := by simp [cellsB]
theorem pow8 (k : Nat) : (2 : Int) ^ (8 * k) = ((256 ^ k : Nat) : Int) := by
 have : (256 : Nat) ^ k = 2 ^ (8 * k) := (Nat.pow_mul 2 8 k).symm
 rw [this, Int.natCast_pow]; rfl
theorem byte_at (n k : Nat) : ((n : Int) / 2 ^ (8 * k) % 256) = ((n / 256 ^ k % 256 : Nat) : Int) := by rw [pow8, Int.natCast_emod, Int.natCast_ediv]; rfl
end Proofs.Nm
end Go
