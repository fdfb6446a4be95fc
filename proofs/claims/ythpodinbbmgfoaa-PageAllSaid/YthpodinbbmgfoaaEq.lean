/-
  Equality of arrays and of structs by value, as Go has it, cell by cell. No program in sight.
-/
import Derived.Test.YthpodinbbmgfoaaKit
import Derived.ChangeKeysEq
namespace Go
section
variable {P : Program}

theorem run_part_agg (w : World) (e : TypeId) (n : Nat) (cs : Array Value) (o : Nat) (d : TypeDesc) (hu : P.underlying e = some d) (hd : d.isRow = true) (hi : (P.info? e).map (·.size) = some n) :
    (part e cs o).run P w = .ok (.agg (cs.extract o (o + n))) w := by
  cases hq : P.info? e with
  | none => simp [hq] at hi
  | some inf =>
    have hs : inf.size = n := by simpa [hq] using hi
    have hagg : (isAgg e).run P w = .ok true w := by
      unfold isAgg
      rw [Sem.run_bind, run_underlying hu w]
      cases d <;> simp_all
    simp [sizeOf, typeInfo, hq, hs, part, hagg, Sem.run_bind]
theorem run_part_cell (w : World) (e : TypeId) (cs : Array Value) (o : Nat) (v : Value) (d : TypeDesc) (hu : P.underlying e = some d) (hd : d.isRow = false) (hv : cs[o]? = some v) :
    (part e cs o).run P w = .ok v w := by
  have hagg : (isAgg e).run P w = .ok false w := by
    unfold isAgg
    rw [Sem.run_bind, run_underlying hu w]
    cases d <;> simp_all
  simp [part, hagg, Sem.run_bind, hv]

theorem run_eqItems_all (w : World) (d n : Nat) (elem : TypeId) (xs ys : Array Value) (c : Nat → Bool) : ∀ (l : List Nat),
    (∀ i ∈ l, ∃ a b, (part elem xs (i * n)).run P w = .ok a w ∧ (part elem ys (i * n)).run P w = .ok b w ∧ (Op.equalIn d elem a b).run P w = .ok (c i) w) →
    (Op.eqItems d elem n xs ys l).run P w = .ok (l.all c) w := by
  intro l
  induction l with
  | nil => intro _; simp [Op.eqItems]
  | cons i l ih =>
    intro h
    obtain ⟨a, b, h1, h2, h3⟩ := h i (by simp)
    have ih' := ih fun j hj => h j (by simp [hj])
    simp only [Op.eqItems, Sem.run_bind, h1, h2, h3, Result.andThen_ok]
    cases hc : c i
    · simp [hc]
    · simp [hc, ih']

/-- Two arrays by value: one where each element is. -/
theorem run_eqArr (w : World) (d : Nat) (t : TypeId) (len : Nat) (elem : TypeId) (xs ys : Array Value) (c : Nat → Bool) (i : TypeInfo) (ht : P.underlying t = some (.array len elem)) (hi : P.info? elem = some i)
    (hc : ∀ i, i < len → ∃ a b, (part elem xs (i * P.cellsOf elem)).run P w = .ok a w ∧ (part elem ys (i * P.cellsOf elem)).run P w = .ok b w ∧ (Op.equalIn d elem a b).run P w = .ok (c i) w) :
    (Op.equalIn (d + 1) t (.agg xs) (.agg ys)).run P w = .ok ((List.range len).all c) w := by
  rw [run_equalIn_array w d xs ys ht hi]
  exact run_eqItems_all w d _ elem xs ys c _ fun i h => hc i (List.mem_range.1 h)
end
end Go
