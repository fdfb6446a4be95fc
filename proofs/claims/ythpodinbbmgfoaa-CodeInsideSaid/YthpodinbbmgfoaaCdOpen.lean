/-
  A program and bytes that come in as arguments.
-/
import Derived.Test.YthpodinbbmgfoaaCdTells
set_option linter.unusedVariables false
namespace Go.Proofs.Ythpodinbbmgfoaa
open Go.Proofs.Cd Go.Proofs.Nm Go.RowKit Go.ChangeShapes Go.WideShapes
section
variable {H : Type} {enc : TypeId × Value → H} {w : World} {spare : Nat → Bool} {held : Bool}
theorem fieldsIs : (Try.prog.fieldsOf 77).toList.map (fun f => (f.type, f.offset)) = [(3, 0), (22, 1)] := by kernel_rfl
theorem one_of {α : Type} {l : List α} {n : Nat} {v : α} (h : (l.drop n).take 1 = [v]) : l[n]? = some v := by
  have h0 : ((l.drop n).take 1)[0]? = some v := by rw [h]; rfl
  rw [List.getElem?_take, List.getElem?_drop] at h0
  simpa using h0
theorem nat_of {q : Int} (h : (Lit.int .u64 q).wf = true) : 0 ≤ q ∧ q < 18446744073709551616 := by
  simp only [Lit.wf, Bool.and_eq_true, decide_eq_true_eq] at h
  have h1 : IntKind.u64.min = 0 := by decide
  have h2 : IntKind.u64.max = 18446744073709551615 := by decide
  omega
theorem int_of {q : Int} (h : (Lit.int .i64 q).wf = true) : -9223372036854775808 ≤ q ∧ q ≤ 9223372036854775807 := by
  simp only [Lit.wf, Bool.and_eq_true, decide_eq_true_eq] at h
  have h1 : IntKind.i64.min = -9223372036854775808 := by decide
  have h2 : IntKind.i64.max = 9223372036854775807 := by decide
  omega
theorem byte_of {q : Int} (h : (Lit.int .u8 q).wf = true) : 0 ≤ q ∧ q < 256 := by
  simp only [Lit.wf, Bool.and_eq_true, decide_eq_true_eq] at h
  have h1 : IntKind.u8.min = 0 := by decide
  have h2 : IntKind.u8.max = 255 := by decide
  omega
theorem open_ins {n : Nat} {cs : List Value} {x : DataW H × List MemPlace} (h : DataW.trod enc Try.prog w 0 spare held n 77 cs = some x) : ∃ y : Inst, cs = enI y ∧ goodI y := by
  obtain ⟨xs, n, rfl, _, hl, hx, hf⟩ := DataW.trod_struct fieldsI h
  have hfs := fieldsIs
  have hsz : (Try.prog.fieldsOf 77).toList.length = 2 := by have := congrArg List.length hfs; simpa using this
  have hx2 : xs.length = 2 := by rw [hx]; simpa using hsz
  have g0 : ∀ (i : Nat) (f : Field), (Try.prog.fieldsOf 77).toList[i]? = some f → DataW.trod enc Try.prog w 0 spare held n f.type ((cs.drop f.offset).take (Try.prog.cellsOf f.type)) = xs[i]? := fun i f hif => hf i f (by simpa using hif)
  generalize (Try.prog.fieldsOf 77).toList = fs at hfs hsz g0
  have ci : Try.prog.cellsOf 3 = 1 := by kernel_rfl
  have cu : Try.prog.cellsOf 22 = 1 := by kernel_rfl
  have cI : Try.prog.cellsOf 77 = 2 := by kernel_rfl
  cases fs with
  | nil => simp at hsz
  | cons f fs =>
  cases fs with
  | nil => simp at hsz
  | cons g fs =>
    simp only [List.map_cons, List.cons.injEq, Prod.mk.injEq] at hfs
    obtain ⟨⟨h1, h2⟩, ⟨h3, h4⟩, _⟩ := hfs
    have e0 := g0 0 f rfl
    have e1 := g0 1 g rfl
    rw [h1, h2, ci] at e0
    rw [h3, h4, cu] at e1
    obtain ⟨y0, hy0⟩ : ∃ y, xs[0]? = some y := ⟨xs[0], List.getElem?_eq_getElem (by omega)⟩
    obtain ⟨y1, hy1⟩ : ∃ y, xs[1]? = some y := ⟨xs[1], List.getElem?_eq_getElem (by omega)⟩
    rw [hy0] at e0
    rw [hy1] at e1
    obtain ⟨a, ea, _, wa⟩ := DataW.trod_int Try.underlying3 e0
    obtain ⟨b, eb, _, wb⟩ := DataW.trod_int Try.underlying22 e1
    have ga := one_of ea
    have gb := one_of eb
    obtain ⟨p1, p2⟩ := int_of wa
    obtain ⟨q1, q2⟩ := nat_of wb
    have hlen : cs.length = 2 := by
      first
        | (rw [cI] at hl; exact hl)
        | (simpa [cI] using hl)
    have hb : b.toNat < 18446744073709551616 := by omega
    refine ⟨(a, b.toNat), ?_, p1, p2, hb⟩
    apply List.ext_getElem?
    intro i
    unfold enI
    rcases (show i = 0 ∨ i = 1 ∨ 2 ≤ i from by omega) with rfl | rfl | hi
    · rw [ga]; rfl
    · rw [gb]; simp only [List.getElem?_cons_succ, List.getElem?_cons_zero, Int.toNat_of_nonneg q1]
    · rw [List.getElem?_eq_none (by omega), List.getElem?_eq_none (by simp; omega)]
theorem open_prog {fuel : Nat} {cs : List Value} {x : DataW H × List MemPlace} (h : DataW.trod enc Try.prog w 0 spare held fuel 57 cs = some x) : ∃ v, cs = [v] ∧ ∃ l : List Inst, Rd w 2 v (cellsI l) ∧ ∀ x ∈ l, goodI x :=
  open_rd enI goodI 2 (by omega) Try.underlying57 (by kernel_rfl) len_enI (fun n cs' d hd => open_ins hd) h
theorem open_bytes {fuel : Nat} {cs : List Value} {x : DataW H × List MemPlace} (h : DataW.trod enc Try.prog w 0 spare held fuel 58 cs = some x) : ∃ v, cs = [v] ∧ ∃ l : List Nat, Rd w 1 v (cellsB l) ∧ goodB l := by
  obtain ⟨v, h1, l, h2, h3⟩ := open_rd_ints Try.underlying58 Try.underlying5 (by kernel_rfl) h
  refine ⟨v, h1, l.map Int.toNat, ?_, fun x hx => ?_⟩
  · have : cellsB (l.map Int.toNat) = l.map (Value.int .u8) := by
      unfold cellsB
      rw [List.map_map]
      apply List.map_congr_left
      intro q hq
      have := byte_of (h3 q hq)
      simp only [Function.comp, Int.toNat_of_nonneg this.1]
    rw [this]; exact h2
  · obtain ⟨q, hq, rfl⟩ := List.mem_map.1 hx
    have := byte_of (h3 q hq)
    omega
end
end Go.Proofs.Ythpodinbbmgfoaa
