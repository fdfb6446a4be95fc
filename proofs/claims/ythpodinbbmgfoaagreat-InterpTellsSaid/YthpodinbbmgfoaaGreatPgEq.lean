/-
  Equality of pages by value, and the walk of Check.
-/
import Derived.Test.YthpodinbbmgfoaaGreatPgWalk2
import Derived.Test.YthpodinbbmgfoaaGreatEq
set_option linter.unusedSimpArgs false
set_option linter.unusedVariables false
namespace Go.Proofs.Pg
def ws (q : Nat → Nat) : Array Value := #[.int .u64 (q 0), .int .u64 (q 1), .int .u64 (q 2), .int .u64 (q 3), .int .u64 (q 4), .int .u64 (q 5), .int .u64 (q 6), .int .u64 (q 7)]
theorem get_ws (q : Nat → Nat) {k : Nat} (h : k < 8) : (ws q)[k]? = some (.int .u64 (q k)) := by
  match k, h with
  | 0, _ => rfl
  | 1, _ => rfl
  | 2, _ => rfl
  | 3, _ => rfl
  | 4, _ => rfl
  | 5, _ => rfl
  | 6, _ => rfl
  | 7, _ => rfl
theorem extract_ws (b : Bool) (q : Nat → Nat) : (pg1 b q).extract 1 (1 + 8) = ws q := rfl
def sameW (q q' : Nat → Nat) : Bool := (List.range 8).all fun k => q k == q' k
def samePg (b : Nat → Bool) (q : Nat → Nat → Nat) (b' : Nat → Bool) (q' : Nat → Nat → Nat) : Bool := (List.range 16).all fun i => (b i == b' i) && sameW (q i) (q' i)
theorem sameW_self (q : Nat → Nat) : sameW q q = true := by simp [sameW]
theorem samePg_self (b : Nat → Bool) (q : Nat → Nat → Nat) : samePg b q b q = true := by simp [samePg, sameW_self]
theorem sameW_zero (q : Nat → Nat) : sameW q zeros8 = zero8 q := rfl
end Go.Proofs.Pg
namespace Go.Proofs.YthpodinbbmgfoaaGreat
open Go.Proofs.Pg Go.RowKit

theorem cells_ws : Tryz.prog.cellsOf 25 = 1 := by kernel_rfl
theorem cells_p : Tryz.prog.cellsOf 31 = 9 := by kernel_rfl
theorem infoW : (Tryz.prog.info? 29).map (·.size) = some 8 := by kernel_rfl
theorem int_eq (a b : Nat) : ((a : Int) == (b : Int)) = (a == b) := by
  rw [Bool.eq_iff_iff, beq_iff_eq, beq_iff_eq]; omega
theorem equalIn_ws (w : World) (d : Nat) (q q' : Nat → Nat) : (Op.equalIn (d + 2) 29 (.agg (ws q)) (.agg (ws q'))).run Tryz.prog w = .ok (sameW q q') w := by
  obtain ⟨i, hi⟩ : ∃ i, Tryz.prog.info? 25 = some i := by
    have := info_word
    cases h : Tryz.prog.info? 25 with
    | none => rw [h] at this; cases this
    | some i => exact ⟨i, rfl⟩
  unfold sameW
  refine run_eqArr w (d + 1) 29 8 25 _ _ _ i Tryz.underlying29 hi fun k hk => ?_
  rw [cells_ws, Nat.mul_one]
  refine ⟨_, _, run_part_cell w _ _ _ _ _ Tryz.underlying25 rfl (get_ws q hk), run_part_cell w _ _ _ _ _ Tryz.underlying25 rfl (get_ws q' hk), ?_⟩
  rw [run_equalIn_int w d _ _ _ _ _ Tryz.underlying25, int_eq]
theorem equalIn_wsM (w : World) (q q' : Nat → Nat) : (Op.equalIn 10000 29 (.agg (ws q)) (.agg (ws q'))).run Tryz.prog w = .ok (sameW q q') w := equalIn_ws w 9998 q q'

theorem fieldsP : Tryz.prog.underlying 31 = some (.struct (Tryz.prog.fieldsOf 31)) := by kernel_rfl
theorem fieldsPs : (Tryz.prog.fieldsOf 31).toList.map (fun f => (f.type, f.offset, f.name != "_")) = [(4, 0, true), (29, 1, true)] := by kernel_rfl
theorem equalIn_page (w : World) (d : Nat) (b b' : Bool) (q q' : Nat → Nat) : (Op.equalIn (d + 3) 31 (.agg (pg1 b q)) (.agg (pg1 b' q'))).run Tryz.prog w = .ok ((b == b') && sameW q q') w := by
  rw [run_equalIn_struct w (d + 2) _ _ _ fieldsP (by kernel_rfl)]
  have hf := fieldsPs
  generalize (Tryz.prog.fieldsOf 31).toList = fs at hf
  cases fs with
  | nil => simp at hf
  | cons f fs =>
  cases fs with
  | nil => simp at hf
  | cons g fs =>
  cases fs with
  | cons _ _ => simp at hf
  | nil =>
    simp only [List.map_cons, List.map_nil, List.cons.injEq, Prod.mk.injEq, and_true, bne_iff_ne, ne_eq] at hf
    obtain ⟨⟨h1, h2, h3⟩, h4, h5, h6⟩ := hf
    have e1 : (part 4 (pg1 b q) 0).run Tryz.prog w = .ok (.bool b) w := run_part_cell w _ _ _ _ _ Tryz.underlying4 rfl rfl
    have e2 : (part 4 (pg1 b' q') 0).run Tryz.prog w = .ok (.bool b') w := run_part_cell w _ _ _ _ _ Tryz.underlying4 rfl rfl
    have e3 : (part 29 (pg1 b q) 1).run Tryz.prog w = .ok (.agg (ws q)) w := by rw [run_part_agg w _ 8 _ _ _ Tryz.underlying29 rfl infoW, extract_ws]
    have e4 : (part 29 (pg1 b' q') 1).run Tryz.prog w = .ok (.agg (ws q')) w := by rw [run_part_agg w _ 8 _ _ _ Tryz.underlying29 rfl infoW, extract_ws]
    have e5 := run_equalIn_bool' (P := Tryz.prog) w (d + 1) 4 b b' Tryz.underlying4
    have e6 := equalIn_ws w d q q'
    have h3' : f.name ≠ "_" := h3
    have h6' : g.name ≠ "_" := h6
    unfold Op.eqFields
    rw [if_pos h3', h1, h2]
    simp only [Sem.run_bind, e1, e2, Result.andThen_ok, e5]
    unfold Op.eqFields
    rw [if_pos h6', h4, h5]
    unfold Op.eqFields
    cases hbb : b == b' <;> cases hww : sameW q q' <;> rw [hww] at e6 <;> simp [Sem.run_bind, e3, e4, e6]
theorem equalIn_pg (w : World) (d : Nat) (b b' : Nat → Bool) (q q' : Nat → Nat → Nat) : (Op.equalIn (d + 4) 32 (.agg (pg b q)) (.agg (pg b' q'))).run Tryz.prog w = .ok (samePg b q b' q') w := by
  obtain ⟨i, hi⟩ : ∃ i, Tryz.prog.info? 31 = some i := by
    have := infoP
    cases h : Tryz.prog.info? 31 with
    | none => rw [h] at this; cases this
    | some i => exact ⟨i, rfl⟩
  unfold samePg
  refine run_eqArr w (d + 3) 32 16 31 _ _ _ i Tryz.underlying32 hi fun k hk => ?_
  rw [cells_p]
  refine ⟨_, _, run_part_agg w _ 9 _ _ _ Tryz.underlying31 rfl infoP, run_part_agg w _ 9 _ _ _ Tryz.underlying31 rfl infoP, ?_⟩
  rw [extract_pg _ _ hk, extract_pg _ _ hk, equalIn_page]
theorem equalIn_pgM (w : World) (b b' : Nat → Bool) (q q' : Nat → Nat → Nat) : (Op.equalIn 10000 32 (.agg (pg b q)) (.agg (pg b' q'))).run Tryz.prog w = .ok (samePg b q b' q') w := equalIn_pg w 9996 b b' q q'
end Go.Proofs.YthpodinbbmgfoaaGreat
