/-
 More rules of the walk over a region that draws its order: append to a slice of the call's own; the region in a round of a loop over an iterator. No program in sight.
-/
import Derived.Test.YtjmibgomkgkhnaaGreatAnyR
import Derived.Test.YtjmibgomkgkhnaaGreatOwn
import Derived.OrdersIn
import Derived.OwnWalkIn
import Derived.RangeFuncCalls
import Derived.RangeFuncWrites
set_option linter.unusedVariables false
set_option linter.unusedSimpArgs false
namespace Go
namespace Any
open Go.RowKit
theorem VE.rd {β : Base} {w : World} {E : Env} (h : VE β E w) {j B : Nat} {z : Array Value} (hE : E j = some (B, z)) (n k : Nat) (hz : z.size = n * k) (hn : n ≤ maxLen) : Rd w k (.slice (some ⟨B, 0, none⟩) n n) z.toList := by
 obtain ⟨h1, h2, _⟩ := h.own j B z hE
 refine ⟨some ⟨B, 0, none⟩, n, n, rfl, by simpa using hz, Nat.le_refl _, hn, fun h => (by cases h), fun i hi => ⟨_, 0, rfl, soft_lt h2, ?_⟩⟩
 rw [cell_rowD, h1, Nat.zero_add]; simp
theorem AppRow.some {c : List Value} {k n : Nat} (h : c.length = n * k) (hn : n ≤ maxLen) : ∃ v x, AppRow v k c x :=
 ⟨.slice (Option.some ⟨0, 0, none⟩) n n, (0, c.toArray), n, n, rfl, h, Nat.le_refl _, hn, by simpa using h, by simp [← h]⟩
section
variable {P : Program} {ops : Array Oper} {β : Base} {S : Nat → Stat} {D : Nat → Kind} {Q : Act → Env → Prop} {k : Nat} {rest : List Oper} {a : Act} {E : Env}
variable {dst : Option Tmp} {ty t : TypeId} {pos : String} {after : Array Edge} {g : Option (Nat × Bool)} {x y : Operand}
theorem at_eapp (h : wpE P ops β S D Q k (⟨dst, .call { callee := .builtin .append, args := #[x, y], argTypes := #[t, t] }, ty, pos, after, g⟩ :: rest) a E) : wpE P ops β S D Q k (⟨dst, .call { callee := .builtin .append, args := #[x, y], argTypes := #[t, t] }, ty, pos, after, g⟩ :: rest) a E := h
end
/-! ### In a round. -/
section
variable {P : Program} {ops : Array Oper} {β : Base} {S : Nat → Stat} {D : Nat → Kind} {l n : Nat}
end
theorem VE.keeps {w0 w w' : World} {L : List (Nat × Array Value)} {E : Env} (hv : Vars w0 w L) (h : VE ⟨w0, w.drewN 1, L.map (·.1)⟩ E w') (B : Nat) : KeepsFrom B w w' := by
 refine ⟨h.size, fun k o _ hk ho => ?_⟩
 have hlt := (Array.getElem?_eq_some_iff.1 hk).1
 refine (h.frame k hlt ?_).trans hk
 intro hX
 obtain ⟨p, hp, rfl⟩ := List.mem_map.1 hX
 obtain ⟨tt, ht⟩ := soft_heap (hv.rows p hp).2.1
 rw [hk] at ht
 cases ht
 cases ho
end Any
end Go
