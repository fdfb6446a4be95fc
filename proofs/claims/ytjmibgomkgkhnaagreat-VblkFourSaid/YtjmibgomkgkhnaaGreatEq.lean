/-
 Equality of arrays and of structs by value, as Go has it, cell by cell. No program in sight.
-/
import Derived.Test.YtjmibgomkgkhnaaGreatKit
import Derived.ChangeKeysEq
import Derived.Laws.StructEq
set_option linter.unusedVariables false
set_option linter.unusedSimpArgs false
namespace Go
section
variable {P : Program}

theorem run_part_agg (w : World) (e : TypeId) (n : Nat) (cs : Array Value) (o : Nat) (d : TypeDesc) (hu : P.underlying e = some d) (hd : d.isRow = true) (hi : (P.info? e).map (·.size) = some n) :
   (part e cs o).run P w = .ok (.agg (cs.extract o (o + n))) w := by
 cases hq : P.info? e with
 | none => simp [hq] at hi
 | some inf =>
   have hs : inf.size = n := by simpa [hq] using hi
   have hagg : (isAgg e).run P w = .ok true w := by
     unfold isAgg
     rw [Sem.run_bind, run_underlying hu w]
     cases d <;> simp_all
   simp [sizeOf, typeInfo, hq, hs, part, hagg, Sem.run_bind]
theorem run_part_cell (w : World) (e : TypeId) (cs : Array Value) (o : Nat) (v : Value) (d : TypeDesc) (hu : P.underlying e = some d) (hd : d.isRow = false) (hv : cs[o]? = some v) :
   (part e cs o).run P w = .ok v w := by
 have hagg : (isAgg e).run P w = .ok false w := by
   unfold isAgg
   rw [Sem.run_bind, run_underlying hu w]
   cases d <;> simp_all
 simp [part, hagg, Sem.run_bind, hv]

theorem run_eqItems_all (w : World) (d n : Nat) (elem : TypeId) (xs ys : Array Value) (c : Nat → Bool) : ∀ (l : List Nat),
   (∀ i ∈ l, ∃ a b, (part elem xs (i * n)).run P w = .ok a w ∧ (part elem ys (i * n)).run P w = .ok b w ∧ (Op.equalIn d elem a b).run P w = .ok (c i) w) →
   (Op.eqItems d elem n xs ys l).run P w = .ok (l.all c) w := by
 intro l
 induction l with
 | nil => intro _; simp [Op.eqItems]
 | cons i l ih =>
   intro h
   obtain ⟨a, b, h1, h2, h3⟩ := h i (by simp)
   have ih' := ih fun j hj => h j (by simp [hj])
   simp only [Op.eqItems, Sem.run_bind, h1, h2, h3, Result.andThen_ok]
   cases hc : c i
   · simp [hc]
   · simp [hc, ih']

theorem run_eqArr (w : World) (d : Nat) (t : TypeId) (len : Nat) (elem : TypeId) (xs ys : Array Value) (c : Nat → Bool) (i : TypeInfo) (ht : P.underlying t = some (.array len elem)) (hi : P.info? elem = some i)
   (hc : ∀ i, i < len → ∃ a b, (part elem xs (i * P.cellsOf elem)).run P w = .ok a w ∧ (part elem ys (i * P.cellsOf elem)).run P w = .ok b w ∧ (Op.equalIn d elem a b).run P w = .ok (c i) w) :
   (Op.equalIn (d + 1) t (.agg xs) (.agg ys)).run P w = .ok ((List.range len).all c) w := by
 rw [run_equalIn_array w d xs ys ht hi]
 exact run_eqItems_all w d _ elem xs ys c _ fun i h => hc i (List.mem_range.1 h)

theorem run_eqFields_all (w : World) (d : Nat) (xs ys : Array Value) : ∀ (fl : List Field) (fs : List (TypeId × Nat)) (c : List Bool), fl.map (fun f => (f.type, f.offset, f.name != "_")) = fs.map (fun p => (p.1, p.2, true)) → fs.length = c.length →
   (∀ i (hi : i < fs.length) (hc : i < c.length), ∃ a b, (part fs[i].1 xs fs[i].2).run P w = .ok a w ∧ (part fs[i].1 ys fs[i].2).run P w = .ok b w ∧ (Op.equalIn d fs[i].1 a b).run P w = .ok c[i] w) →
   (Op.eqFields d xs ys fl).run P w = .ok (c.all id) w := by
 intro fl
 induction fl with
 | nil =>
   intro fs c h hl _
   cases fs with
   | nil => cases c with
     | nil => simp [Op.eqFields]
     | cons _ _ => simp at hl
   | cons _ _ => simp at h
 | cons f fl ih =>
   intro fs c h hl hx
   cases fs with
   | nil => simp at h
   | cons p fs =>
     cases c with
     | nil => simp at hl
     | cons b c =>
       simp only [List.map_cons, List.cons.injEq, Prod.mk.injEq, bne_iff_ne, ne_eq] at h
       obtain ⟨⟨h1, h2, h3⟩, h4⟩ := h
       have h3' : f.name ≠ "_" := h3
       obtain ⟨u, v, e1, e2, e3⟩ := hx 0 (by simp) (by simp)
       simp only [List.getElem_cons_zero] at e1 e2 e3
       have ih' := ih fs c h4 (by simpa using hl) (fun i hi hc => by
         have := hx (i + 1) (by simp; omega) (by simp; omega)
         simpa using this)
       unfold Op.eqFields
       rw [if_pos h3', h1, h2]
       simp only [Sem.run_bind, e1, e2, e3, Result.andThen_ok]
       cases b
       · simp
       · simp [ih']
theorem run_eqStruct (w : World) (d : Nat) (t : TypeId) (xs ys : Array Value) (fs : List (TypeId × Nat)) (c : List Bool) (ht : P.underlying t = some (.struct (P.fieldsOf t))) (hp : P.stoodInHeld t = false)
   (hf : (P.fieldsOf t).toList.map (fun f => (f.type, f.offset, f.name != "_")) = fs.map (fun p => (p.1, p.2, true))) (hl : fs.length = c.length)
   (h : ∀ i (hi : i < fs.length) (hc : i < c.length), ∃ a b, (part fs[i].1 xs fs[i].2).run P w = .ok a w ∧ (part fs[i].1 ys fs[i].2).run P w = .ok b w ∧ (Op.equalIn d fs[i].1 a b).run P w = .ok c[i] w) :
   (Op.equalIn (d + 1) t (.agg xs) (.agg ys)).run P w = .ok (c.all id) w := by
 rw [run_equalIn_struct w d t xs ys ht hp]
 exact run_eqFields_all w d xs ys _ fs c hf hl h
end
end Go
