/-
  A row of pages that comes in as an argument: what it is.
-/
import Derived.Test.YthpodinbbmgfoaaPgKeeps
import Derived.Test.YthpodinbbmgfoaaLaw
set_option linter.unusedVariables false
namespace Go.Proofs.Ythpodinbbmgfoaa
open Go.Proofs.Pg Go.RowKit Go.ChangeShapes Go.WideShapes
section
variable {H : Type} {enc : TypeId × Value → H} {w : World} {base : Nat} {spare : Nat → Bool} {held : Bool}

theorem cells_ps : Try.prog.cellsOf 36 = 144 := by kernel_rfl
theorem cells_w8 : Try.prog.cellsOf 33 = 8 := by kernel_rfl
theorem cells_b : Try.prog.cellsOf 4 = 1 := by kernel_rfl
theorem take_one {α : Type} {l : List α} {n : Nat} {v : α} (h : (l.drop n).take 1 = [v]) : l[n]? = some v := by
  have h0 : ((l.drop n).take 1)[0]? = some v := by rw [h]; rfl
  rw [List.getElem?_take, List.getElem?_drop] at h0
  simpa using h0
theorem open_word {fuel : Nat} {cs : List Value} {n : Nat} {x : DataW H × List MemPlace} (h : DataW.trod enc Try.prog w base spare held fuel 22 ((cs.drop n).take 1) = some x) :
    ∃ m : Nat, cs[n]? = some (.int .u64 m) := by
  obtain ⟨m, e, _, hw⟩ := DataW.trod_int Try.underlying22 h
  have hm : 0 ≤ m := by
    simp only [Lit.wf, Bool.and_eq_true, decide_eq_true_eq] at hw
    have : IntKind.u64.min = 0 := by decide
    omega
  exact ⟨m.toNat, by rw [take_one e, Int.toNat_of_nonneg hm]⟩
theorem open_page {fuel : Nat} {cs : List Value} {x : DataW H × List MemPlace} (h : DataW.trod enc Try.prog w base spare held fuel 35 cs = some x) :
    (∃ b, cs[0]? = some (.bool b)) ∧ ∀ k, k < 8 → ∃ m : Nat, cs[1 + k]? = some (.int .u64 m) := by
  obtain ⟨xs, n, rfl, _, hl, hx, hf⟩ := DataW.trod_struct fieldsP h
  have hfs := fieldsPs
  have hsz : (Try.prog.fieldsOf 35).toList.length = 2 := by have := congrArg List.length hfs; simpa using this
  have hx2 : xs.length = 2 := by rw [hx]; simpa using hsz
  have g0 : ∀ (i : Nat) (f : Field), (Try.prog.fieldsOf 35).toList[i]? = some f → DataW.trod enc Try.prog w base spare held n f.type ((cs.drop f.offset).take (Try.prog.cellsOf f.type)) = xs[i]? := fun i f hif => hf i f (by simpa using hif)
  generalize (Try.prog.fieldsOf 35).toList = fs at hfs hsz g0
  cases fs with
  | nil => simp at hsz
  | cons f fs =>
  cases fs with
  | nil => simp at hsz
  | cons g fs =>
    simp only [List.map_cons, List.cons.injEq, Prod.mk.injEq] at hfs
    obtain ⟨⟨h1, h2, _⟩, ⟨h3, h4, _⟩, _⟩ := hfs
    have e0 := g0 0 f rfl
    have e1 := g0 1 g rfl
    rw [h1, h2, cells_b] at e0
    rw [h3, h4, cells_w8] at e1
    obtain ⟨y0, hy0⟩ : ∃ y, xs[0]? = some y := ⟨xs[0], List.getElem?_eq_getElem (by omega)⟩
    obtain ⟨y1, hy1⟩ : ∃ y, xs[1]? = some y := ⟨xs[1], List.getElem?_eq_getElem (by omega)⟩
    rw [hy0] at e0
    rw [hy1] at e1
    refine ⟨?_, fun k hk => ?_⟩
    · obtain ⟨b, e, _⟩ := DataW.trod_bool Try.underlying4 e0
      exact ⟨b, take_one e⟩
    · obtain ⟨ys, m, rfl, _, _, hy, hg⟩ := DataW.trod_array Try.underlying33 e1
      have e2 := hg k hk
      rw [cells_ws, Nat.mul_one, List.getElem?_eq_getElem (by omega)] at e2
      obtain ⟨m', e3⟩ := open_word e2
      rw [List.getElem?_take, if_pos hk, List.getElem?_drop] at e3
      exact ⟨m', e3⟩
theorem open_pg {v : Value} {d : DataW H} {ps : List MemPlace} (h : DataW.Trod enc Try.prog w base spare held 36 v d ps) : ∃ b q, v = .agg (pg b q) := by
  obtain ⟨fuel, h⟩ := h
  obtain ⟨xs, m, rfl, _, hl, hx, hf⟩ := DataW.trod_array Try.underlying36 h
  rw [cells_ps] at hl
  have hv : ∃ cs, v = .agg cs := by
    cases v with
    | agg cs => exact ⟨cs, rfl⟩
    | _ => simp [Value.cells] at hl
  obtain ⟨cs, rfl⟩ := hv
  simp only [Value.cells] at hl hf
  rw [cells_p] at hf
  have hb : ∀ i, i < 16 → ∃ b, cs[i * 9]? = some (.bool b) := fun i hi => by
    have e := hf i hi
    rw [List.getElem?_eq_getElem (by omega)] at e
    obtain ⟨⟨b, e0⟩, _⟩ := open_page e
    rw [List.getElem?_take, if_pos (by omega), List.getElem?_drop] at e0
    exact ⟨b, by simpa using e0⟩
  have hq : ∀ i k, i < 16 → k < 8 → ∃ n : Nat, cs[i * 9 + 1 + k]? = some (.int .u64 n) := fun i k hi hk => by
    have e := hf i hi
    rw [List.getElem?_eq_getElem (by omega)] at e
    obtain ⟨_, e1⟩ := open_page e
    obtain ⟨n, e2⟩ := e1 k hk
    rw [List.getElem?_take, if_pos (by omega), List.getElem?_drop] at e2
    exact ⟨n, by rw [Nat.add_assoc]; simpa using e2⟩
  refine ⟨fun i => match cs[i * 9]? with | some (.bool b) => b | _ => false, fun i k => match cs[i * 9 + 1 + k]? with | some (.int _ n) => n.toNat | _ => 0, ?_⟩
  refine congrArg Value.agg ?_
  apply Array.ext_getElem?
  intro j
  rw [get_pg]
  by_cases hj : j < 144
  · rw [if_pos hj]
    unfold cellPg
    by_cases h0 : j % 9 = 0
    · rw [if_pos h0]
      obtain ⟨b, e⟩ := hb (j / 9) (by omega)
      have ej : j / 9 * 9 = j := by omega
      rw [ej] at e
      simp only [ej, e]
    · rw [if_neg h0]
      obtain ⟨n, e⟩ := hq (j / 9) (j % 9 - 1) (by omega) (by omega)
      have ej : j / 9 * 9 + 1 + (j % 9 - 1) = j := by omega
      rw [ej] at e
      simp only [ej, e, Int.toNat_natCast]
  · rw [if_neg hj, Array.getElem?_eq_none]
    have : cs.size = cs.toList.length := by simp
    omega
end
end Go.Proofs.Ythpodinbbmgfoaa
