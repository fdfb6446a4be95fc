/-
 Equality of arrays and of structs by value, as Go has it, cell by cell. No program in sight.
-/
import Derived.Test.YthenepdbgeafkaaGAE
import Derived.ChangeKeysEq
import Derived.Laws.StructEq
set_option linter.unusedVariables false
set_option linter.unusedSimpArgs false
namespace Go
section
variable {P : Program}

theorem run_part_agg (w : World) (e : TypeId) (n : Nat) (cs : Array Value) (o : Nat) (d : TypeDesc) (hu : P.underlying e = some d) (hd : d.isRow = true) (hi : (P.info? e).map (·.size) = some n) :
   (part e cs o).run P w = .ok (.agg (cs.extract o (o + n))) w := by
 cases hq : P.info? e with
 | none => simp [hq] at hi
 | some inf =>
   have hs : inf.size = n := by simpa [hq] using hi
   have hagg : (isAgg e).run P w = .ok true w := by
     unfold isAgg
     rw [Sem.run_bind, run_underlying hu w]
     cases d <;> simp_all
   simp [sizeOf, typeInfo, hq, hs, part, hagg, Sem.run_bind]
theorem run_part_cell (w : World) (e : TypeId) (cs : Array Value) (o : Nat) (v : Value) (d : TypeDesc) (hu : P.underlying e = some d) (hd : d.isRow = false) (hv : cs[o]? = some v) :
   (part e cs o).run P w = .ok v w := by
 have hagg : (isAgg e).run P w = .ok false w := by
   unfold isAgg
   rw [Sem.run_bind, run_underlying hu w]
   cases d <;> simp_all
 simp [part, hagg, Sem.run_bind, hv]

end
end Go
