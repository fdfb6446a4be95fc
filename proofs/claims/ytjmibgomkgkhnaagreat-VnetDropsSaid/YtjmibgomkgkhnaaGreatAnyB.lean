/-
 More rules of the walk over a region that draws: a row laid whose cells hang on what was laid before; append of such a row; a call that reads a row laid in the region. No program in sight.
-/
import Derived.Test.YtjmibgomkgkhnaaGreatKS
set_option linter.unusedVariables false
set_option linter.unusedSimpArgs false
namespace Go
namespace Any
open Go.RowKit
section
variable {P : Program} {ops : Array Oper} {β : Base} {S : Nat → Stat} {D : Nat → Kind} {Q : Act → Env → Prop} {k : Nat} {o : Oper} {rest : List Oper} {a : Act} {E : Env}
end
section
variable {P : Program} {ops : Array Oper} {β : Base} {S : Nat → Stat} {D : Nat → Kind} {Q : Act → Env → Prop} {k : Nat} {rest : List Oper} {a : Act} {E : Env}
variable {dst : Option Tmp} {ty t : TypeId} {pos : String} {after : Array Edge} {g : Option (Nat × Bool)} {x y : Operand}
theorem E_callownA {i : Nat} {xs : Array Operand} {ts : Array TypeId} {f : FuncId} {cap : Array Value} {W : Value → Nat × Array Value → Prop} (hw : Region.wanted (⟨dst, .call { callee := .value x, args := xs, argTypes := ts }, ty, pos, after, g⟩ : Oper) (yielded ops a.tmps) = true)
   (hD : D k = .own W) (hS : (S k).write = some i) (hf : Go.Proofs.Enters P f) (hx : a.eval x = .func (.func f) #[] cap) (vs : List Value) (hv : xs.toList.map a.eval = vs) (hs : ∃ v x, W v x)
   (hc : ∀ E', agree (S k).keys E E' → ∀ w, VE β E' w → Calls P f (vs.toArray ++ cap) w fun e w' => ∃ v x, e = .returned v ∧ W v x ∧ New w w' ∧ w.heap.size ≤ x.1 ∧ w'.rowD x.1 = x.2 ∧ w'.soft x.1 = true)
   (hk : ∀ v x, W v x → wpE P ops β S D Q (k + 1) rest (a.put dst v) (E.put i x)) : wpE P ops β S D Q k (⟨dst, .call { callee := .value x, args := xs, argTypes := ts }, ty, pos, after, g⟩ :: rest) a E := by
 refine E_own hw hD hS hs (fun E' he w hv' => ?_) hk
 unfold res
 rw [run_callv hf hx vs hv w]
 refine (hc E' he w hv').mono fun e w' ⟨v, x, h1, h2, h3, h4, h5, h6⟩ => ⟨v, h1, x, h2, hv'.lay h4 h3 h5 h6⟩
theorem E_build {T : TypeId} {ps : Array (Nat × Operand)} (hw : Region.wanted (⟨dst, .build T ps, ty, pos, after, g⟩ : Oper) (yielded ops a.tmps) = true) (hD : D k = .pure) (hS : (S k).write = none) (vs : List (Nat × Value)) (hp : ps.toList.map (fun p => (p.1, a.eval p.2)) = vs) {cells : Array Value} (h : P.built T vs = some cells)
   (hk : wpE P ops β S D Q (k + 1) rest (a.put dst (.agg cells)) E) : wpE P ops β S D Q k (⟨dst, .build T ps, ty, pos, after, g⟩ :: rest) a E := by
 refine E_pure hw hD hS (fun w => ?_) hk
 have h' := run_build (P := P) w T (ps.map fun (i, x) => (i, a.eval x)) cells (by rw [Array.toList_map, ← h, ← hp])
 unfold execOp
 simp only [Sem.run_bind, h', Result.andThen_ok, Sem.run_pure]
end
end Any
end Go
