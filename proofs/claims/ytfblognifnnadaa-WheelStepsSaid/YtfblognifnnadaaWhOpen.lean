/-
  Wheels and times that come in as arguments.
-/
import Derived.Test.YtfblognifnnadaaOpen
import Derived.Test.YtfblognifnnadaaWhHead
set_option linter.unusedVariables false
set_option linter.unusedSimpArgs false
namespace Go.Proofs.Wh
open Go Go.RowKit
theorem u64w_of {q : Int} (h : (Lit.int .u64 q).wf = true) : ∃ n : Nat, q = (n : Nat) ∧ n < 18446744073709551616 := by
  simp only [Lit.wf, Bool.and_eq_true, decide_eq_true_eq] at h
  have h1 : IntKind.u64.min = 0 := by decide
  have h2 : IntKind.u64.max = 18446744073709551615 := by decide
  exact ⟨q.toNat, by omega, by omega⟩
def goodTm (t : Tm) : Prop := (Lit.int .i64 t.2).wf = true
end Go.Proofs.Wh
namespace Go.Proofs.Ytfblognifnnadaa
open Go.Proofs.Wh Go.RowKit Go.ChangeShapes Go.WideShapes
section
variable {H : Type} {enc : TypeId × Value → H} {w : World} {base : Nat} {spare : Nat → Bool} {held : Bool}
theorem fieldsW : (Try.prog.fieldsOf 26).toList.map (fun f => (f.type, f.offset)) = [(22, 0), (24, 1)] := by kernel_rfl
theorem structW : Try.prog.underlying 26 = some (.struct (Try.prog.fieldsOf 26)) := by kernel_rfl
theorem fieldsT : (Try.prog.fieldsOf 63).toList.map (fun f => (f.type, f.offset)) = [(22, 0), (3, 1)] := by kernel_rfl
theorem structT : Try.prog.underlying 63 = some (.struct (Try.prog.fieldsOf 63)) := by kernel_rfl
theorem ho_u64 : Try.prog.cellsOf 22 = 1 := by kernel_rfl
theorem ho_i : Try.prog.cellsOf 3 = 1 := by kernel_rfl
theorem ho_t : Try.prog.cellsOf 63 = 2 := by kernel_rfl
theorem ho_w : Try.prog.cellsOf 26 = 9 := by kernel_rfl
theorem ho_ts : Try.prog.cellsOf 23 = 1 := by kernel_rfl
theorem ho_a : Try.prog.cellsOf 24 = 8 := by kernel_rfl
theorem open_timers {fuel : Nat} {cs : List Value} {x : DataW H × List MemPlace} (h : DataW.trod enc Try.prog w 0 spare held fuel 23 cs = some x) : ∃ v, cs = [v] ∧ ∃ l : List Tm, Rd w 2 v (cellsT l) ∧ ∀ p ∈ l, goodTm p := by
  refine open_rd encT goodTm 2 (by omega) Try.underlying23 ho_t (fun _ => rfl) (fun n cs' d hd => ?_) h
  obtain ⟨hl, m, hf⟩ := open_str structT fieldsT hd
  obtain ⟨y0, e0⟩ := hf 0 _ rfl
  obtain ⟨y1, e1⟩ := hf 1 _ rfl
  obtain ⟨a, ga, wa⟩ := cell_int Try.underlying22 ho_u64 e0
  obtain ⟨a, rfl, _⟩ := u64w_of wa
  obtain ⟨b, gb, wb⟩ := cell_int Try.underlying3 ho_i e1
  rw [ho_t] at hl
  refine ⟨(a, b), ?_, wb⟩
  apply List.ext_getElem?
  intro i
  unfold encT
  rcases (show i = 0 ∨ i = 1 ∨ 2 ≤ i from by omega) with rfl | rfl | hi
  · rw [ga]; rfl
  · rw [gb]; rfl
  · rw [List.getElem?_eq_none (by omega), List.getElem?_eq_none (by simp; omega)]
theorem open_wheel {v : Value} {d : DataW H} {ps : List MemPlace} (h : DataW.Trod enc Try.prog w 0 spare held 26 v d ps) :
    ∃ now sv S R, v = .agg (rowW now sv) ∧ now < 18446744073709551616 ∧ (∀ x ∈ R, Rd w x.1 x.2.1 x.2.2) ∧ InW R sv S ∧ ∀ l ∈ S, ∀ t ∈ l, (Lit.int .i64 t.2).wf = true := by
  obtain ⟨fuel, h⟩ := h
  obtain ⟨hl, m, hf⟩ := open_str structW fieldsW h
  rw [ho_w] at hl
  obtain ⟨cs, rfl⟩ := agg_of hl (by omega)
  simp only [Value.cells] at hl hf
  obtain ⟨y0, e0⟩ := hf 0 _ rfl
  obtain ⟨y1, e1⟩ := hf 1 _ rfl
  obtain ⟨a, g0, wa⟩ := cell_int Try.underlying22 ho_u64 e0
  obtain ⟨a, rfl, ha⟩ := u64w_of wa
  obtain ⟨xs, n, rfl, _, _, hx, hg⟩ := DataW.trod_array Try.underlying24 e1
  rw [ho_a, ho_ts] at hg
  have hq : ∀ i : Nat, ∃ p : Value × List Tm, i < 8 → cs.toList[1 + i]? = some p.1 ∧ Rd w 2 p.1 (cellsT p.2) ∧ ∀ t ∈ p.2, goodTm t := fun i => by
    by_cases hi : i < 8
    · have e2 := hg i hi
      rw [List.getElem?_eq_getElem (by omega)] at e2
      obtain ⟨v, ev, l, hr, hgd⟩ := open_timers e2
      rw [Nat.mul_one] at ev
      have e3 := take_1 ev
      rw [List.getElem?_take, if_pos hi, List.getElem?_drop] at e3
      exact ⟨(v, l), fun _ => ⟨e3, hr, hgd⟩⟩
    · exact ⟨(undef, []), fun h => (hi h).elim⟩
  obtain ⟨f, hf⟩ := Classical.axiomOfChoice hq
  refine ⟨a, (List.range 8).map fun i => (f i).1, (List.range 8).map fun i => (f i).2, (List.range 8).map fun i => (2, (f i).1, cellsT (f i).2), ?_, ha, ?_, ⟨by simp, by simp, ?_⟩, ?_⟩
  · refine congrArg Value.agg ?_
    apply Array.ext_getElem?
    intro i
    rw [← Array.getElem?_toList]
    unfold rowW
    rw [List.getElem?_toArray]
    match i with
    | 0 => rw [g0]; rfl
    | i + 1 =>
      rw [List.getElem?_cons_succ]
      by_cases hi : i < 8
      · have e := (hf i hi).1
        rw [Nat.add_comm] at e
        rw [e, List.getElem?_map, List.getElem?_range hi]; rfl
      · rw [List.getElem?_eq_none (by omega), List.getElem?_eq_none (by simp; omega)]
  · intro x hx
    obtain ⟨i, hi, rfl⟩ := List.mem_map.1 hx
    exact (hf i (List.mem_range.1 hi)).2.1
  · intro i v l h1 h2
    rw [List.getElem?_map] at h1 h2
    cases e : (List.range 8)[i]? with
    | none => rw [e] at h1; cases h1
    | some j =>
      rw [e] at h1 h2
      cases h1; cases h2
      exact List.mem_map.2 ⟨j, List.mem_of_getElem? e, rfl⟩
  · intro l hl' t ht
    obtain ⟨i, hi, rfl⟩ := List.mem_map.1 hl'
    exact (hf i (List.mem_range.1 hi)).2.2 t ht
theorem open_times {fuel : Nat} {cs : List Value} {x : DataW H × List MemPlace} (h : DataW.trod enc Try.prog w 0 spare held fuel 34 cs = some x) : ∃ v, cs = [v] ∧ ∃ l : List Nat, Rd w 1 v (l.map fun n => Value.int .u64 (n : Nat)) ∧ ∀ x ∈ l, x < 18446744073709551616 := by
  obtain ⟨v, h1, l, h2, h3⟩ := open_rd_ints Try.underlying34 Try.underlying22 ho_u64 h
  refine ⟨v, h1, l.map Int.toNat, ?_, fun x hx => ?_⟩
  · have : (l.map Int.toNat).map (fun n => Value.int .u64 (n : Nat)) = l.map (Value.int .u64) := by
      rw [List.map_map]
      apply List.map_congr_left
      intro q hq
      obtain ⟨n, rfl, _⟩ := u64w_of (h3 q hq)
      simp
    rw [this]; exact h2
  · obtain ⟨q, hq, rfl⟩ := List.mem_map.1 hx
    obtain ⟨n, rfl, hn⟩ := u64w_of (h3 q hq)
    simpa using hn
end
end Go.Proofs.Ytfblognifnnadaa
