/-
 The laws for a walk's arms, inside a fence: variables of the call's own, slices that are read; what a round over a function keeps. No program in sight.
-/
import Derived.Test.YtjmibgomkgkhnaaGreatKS
import Derived.RangeFuncNested
import Derived.RangeFuncBound
import Derived.RangeFuncCalls
import Derived.RangeFuncLeaves
import Derived.Shelf.Abstract
import Derived.Shelf.RegionOpen
import Derived.WalkKit
import Derived.OwnWalkIn
import Derived.TacticsInMore
import Derived.LoopNIn
import Derived.LoopIn
set_option linter.unusedVariables false
set_option linter.unusedSimpArgs false
namespace Go
open Go.RowKit
section
variable {F : Fence} {n : Nat} {P : Program} {ops : Array Oper} {rest : List Oper} {a : Act} {w w' : World} {Q : Exit → Act → World → Prop} {o : Oper}
variable {dst : Option Tmp} {ty T t e : TypeId} {pos : String} {after : Array Edge} {g : Option (Nat × Bool)} {x y : Operand}
end
theorem rowD_turn {w w' : World} {row : Option Nat} {b : Nat} {c : Array Value} (h : w.rowD b = c) (hc : 0 < c.size) (hg : w.grownBy w' row) (hr : ∀ r, row = some r → ∃ o : Obj, w.heap[r]? = some o ∧ o.isCells = false) : w'.rowD b = c := by
 obtain ⟨t, fr, ht⟩ := rowD_block (w := w) (b := b) (by rw [h]; exact hc)
 rw [rowD_congr (hg.block b (Array.getElem?_eq_some_iff.1 ht).1 (fun e => by
   obtain ⟨o, ho, hno⟩ := hr b e.symm
   rw [ht] at ho; cases ho; cases hno))]
 exact h
theorem Rd.turn {w w' : World} {row : Option Nat} {k : Nat} {v : Value} {c : List Value} (h : Rd w k v c) (hg : w.grownBy w' row) (hr : ∀ r, row = Option.some r → ∃ o : Obj, w.heap[r]? = Option.some o ∧ o.isCells = false) : Rd w' k v c := by
 obtain ⟨ao, n, cap, rfl, h1, h2, h3, h4, h5⟩ := h
 refine ⟨ao, n, cap, rfl, h1, h2, h3, h4, fun i hi => ?_⟩
 obtain ⟨b, o, e, hb', hc⟩ := h5 i hi
 have := hg.size
 refine ⟨b, o, e, by omega, ?_⟩
 rw [cell_rowD] at hc ⊢
 have hsz : 0 < (w.rowD b).size := by
   rw [List.getElem?_eq_getElem hi] at hc
   have := (Array.getElem?_eq_some_iff.1 hc).1
   omega
 rw [rowD_turn rfl hsz hg hr]; exact hc
theorem Vars.turn {w0 w w' : World} {L : List (Nat × Array Value)} {row : Option Nat} (h : Vars w0 w L) (hg : w.grownBy w' row) (hr : ∀ r, row = some r → w0.heap.size ≤ r ∧ ∃ o : Obj, w.heap[r]? = some o ∧ o.isCells = false) : Vars w0 w' L := by
 refine ⟨h.below.grown hg h.below.size (fun k e => (hr k e).1), fun p hp => ?_, h.apart⟩
 obtain ⟨h1, h2, h3⟩ := h.rows p hp
 obtain ⟨tt, ht⟩ := soft_heap h2
 have hb : w'.heap[p.1]? = w.heap[p.1]? := hg.block p.1 (soft_lt h2) (fun e => by
   obtain ⟨_, o, ho, hc⟩ := hr p.1 e.symm
   rw [ht] at ho; cases ho; cases hc)
 exact ⟨(rowD_congr hb).trans h1, (soft_congr hb).trans h2, h3⟩
theorem Mem.turn {w0 w w' : World} {L : List (Nat × Array Value)} {R : List (Nat × Value × List Value)} {row : Option Nat} (h : Mem w0 w L R) (hg : w.grownBy w' row) (hr : ∀ r, row = some r → w0.heap.size ≤ r ∧ ∃ o : Obj, w.heap[r]? = some o ∧ o.isCells = false) : Mem w0 w' L R :=
 ⟨h.vars.turn hg hr, fun x hx => ⟨(h.rds x hx).1.turn hg (fun r e => (hr r e).2), (h.rds x hx).2⟩⟩
theorem New.keeps {w w' : World} (h : New w w') (B : Nat) : KeepsFrom B w w' := ⟨h.size, fun k o _ hk _ => (h.block k (Array.getElem?_eq_some_iff.1 hk).1).trans hk⟩
theorem Wrote.keeps {w w' : World} {b : Nat} {c : Array Value} (h : Wrote w w' b c) (hs : w.soft b = true) (B : Nat) : KeepsFrom B w w' := by
 refine ⟨by rw [h.size]; exact Nat.le_refl _, fun k o _ hk ho => ?_⟩
 refine (h.other k (fun e => ?_)).trans hk
 subst e
 obtain ⟨t, ht⟩ := soft_heap hs
 rw [ht] at hk; cases hk; cases ho
def FRb (w : World) (x : Nat × Value × List Value) : Prop := x.2.2 ≠ [] → ∃ b o n cap, x.2.1 = .slice (some ⟨b, o, none⟩) n cap ∧ w.heap.size ≤ b
theorem OwnL.fr {w0 w : World} {A B O : List (Nat × Array Value)} {R : List (Nat × Value × List Value)} {k : Nat} {v : Value} {c : List Value} (h : OwnL k v c O) (hv : Mem w0 w (A ++ O ++ B) R) : FRb w0 (k, v, c) := by
 intro hc
 rcases h with ⟨rfl, rfl, rfl⟩ | ⟨x, ⟨n, cap, rfl, _⟩, rfl⟩
 · exact (hc rfl).elim
 · exact ⟨x.1, 0, n, cap, rfl, (hv.vars.rows x (by simp)).2.2⟩
end Go
