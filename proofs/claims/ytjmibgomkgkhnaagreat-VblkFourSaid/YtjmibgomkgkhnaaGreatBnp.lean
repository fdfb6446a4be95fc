/-
 Parts of variables written, in a region walked over Mem.
-/
import Derived.Test.YtjmibgomkgkhnaaGreatBny
import Derived.Test.YtjmibgomkgkhnaaGreatQuFl
set_option linter.unusedVariables false
set_option linter.unusedSimpArgs false
namespace Go
namespace Bny
open Go.RowKit Go.Any
section
variable {P : Program} {ops : Array Oper} {β : Base} {S : Nat → Any.Stat} {D : Nat → Kind} {Q : Act → Env → Prop} {k : Nat} {rest : List Oper} {a : Act} {E : Env}
variable {dst : Option Tmp} {ty T : TypeId} {pos : String} {after : Array Edge} {g : Option (Nat × Bool)} {x y : Operand}
theorem at_ecallf {f : FuncId} {xs : Array Operand} {ts : Array TypeId} (h : wpE P ops β S D Q k (⟨dst, .call { callee := .value (.func f), args := xs, argTypes := ts }, ty, pos, after, g⟩ :: rest) a E) : wpE P ops β S D Q k (⟨dst, .call { callee := .value (.func f), args := xs, argTypes := ts }, ty, pos, after, g⟩ :: rest) a E := h
theorem E_putp {i B off : Nat} {c0 c : Array Value} (hw : Region.wanted (⟨dst, .store T x y, ty, pos, after, g⟩ : Oper) (yielded ops a.tmps) = true) (hD : D k = .put) (hS : (S k).write = some i) (hx : a.eval x = .pointer (some ⟨B, off, none⟩)) (hE : E i = .row B c0)
   (hy : a.eval y = .agg c) (n : Nat) (hi : (P.info? T).map (·.size) = some n) (hc : c.size = n) (h0 : off + n ≤ c0.size) (h1 : c.all (·.oneCell') = true) {c' : Array Value} (hs : splice c0 off c = c')
   (hk : wpE P ops β S D Q (k + 1) rest (a.put dst undef) (E.put i (.row B c'))) : wpE P ops β S D Q k (⟨dst, .store T x y, ty, pos, after, g⟩ :: rest) a E :=
 E_put hw hD hS rfl hx hE (by rw [hy]; exact hs) (fun w hr hs' => by
   obtain ⟨w', r1, r2⟩ := run_stp (P := P) (a := a) (o := ⟨dst, .store T x y, ty, pos, after, g⟩) w T x y rfl B off c hx hy n hi hc h1 hs' (by rw [hr]; exact h0)
   rw [hr, hs] at r2
   exact ⟨w', r1, r2⟩) hk
end
end Bny
end Go
