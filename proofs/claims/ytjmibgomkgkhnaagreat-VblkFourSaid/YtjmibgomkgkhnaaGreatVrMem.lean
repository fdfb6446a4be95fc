/-
 Machine memory: no bytes got, no bytes put; what is put read back.
-/
import Derived.Test.YtjmibgomkgkhnaaGreatQuMm
set_option maxRecDepth 100000
set_option maxHeartbeats 4000000
set_option linter.unusedVariables false
set_option linter.unusedSimpArgs false
namespace Go
open Go.RowKit
section
variable {P : Program} {ops : Array Oper} {rest : List Oper} {a : Act} {w : World} {Q : Exit → Act → World → Prop}
variable {dst : Option Tmp} {ty t t' : TypeId} {e : TypeId} {pos : String} {after : Array Edge} {g : Option (Nat × Bool)} {x y : Operand}
end
end Go
namespace Go.Proofs.Qu
open Go Go.RowKit Go.Proofs.Nm
theorem getB_apart {M D : List Nat} {p q n : Nat} (h : p + D.length ≤ M.length) (ha : q + n ≤ p ∨ p + D.length ≤ q) : getB (putB M p D) q n = getB M q n := by
 unfold getB putB
 apply List.ext_getElem?
 intro i
 rw [List.getElem?_take, List.getElem?_take]
 by_cases hi : i < n
 · rw [if_pos hi, if_pos hi, List.getElem?_drop, List.getElem?_drop]
   have hl : (M.take p).length = p := by rw [List.length_take]; omega
   have hl2 : (M.take p ++ D).length = p + D.length := by rw [List.length_append, hl]
   rcases ha with ha | ha
   · rw [List.append_assoc, List.getElem?_append_left (by omega), List.getElem?_take, if_pos (by omega)]
   · rw [List.getElem?_append_right (by omega), hl2, List.getElem?_drop]
     congr 1; omega
 · rw [if_neg hi, if_neg hi]
theorem Rd.none {w : World} {b o : Nat} : Rd w 1 (.slice (some ⟨b, o, none⟩) 0 0) [] := ⟨_, 0, 0, rfl, rfl, Nat.le_refl _, by unfold maxLen; omega, (fun h => nomatch h), fun i hi => (Nat.not_lt_zero _ hi).elim⟩
end Go.Proofs.Qu
namespace Go.Proofs.YtjmibgomkgkhnaaGreat
open Go.Proofs.Qu Go.Proofs.Nm Go.RowKit Go.Proofs
end Go.Proofs.YtjmibgomkgkhnaaGreat
