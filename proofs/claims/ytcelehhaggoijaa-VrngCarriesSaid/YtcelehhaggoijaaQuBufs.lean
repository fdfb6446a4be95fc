/-
  Parts alike, numbers alike: the reference says so.
-/
import Derived.Test.YtcelehhaggoijaaQuNext
set_option linter.unusedVariables false
set_option linter.unusedSimpArgs false
namespace Go.Proofs.Qu
open Go Go.RowKit Go.Proofs.Nm
theorem part_flat {k : Nat} {α : Type} {en : α → List Value} (hen : ∀ x, (en x).length = k) : ∀ (l : List α) (i : Nat) (h : i < l.length), ((l.flatMap en).drop (i * k)).take k = en l[i] := by
  intro l
  induction l with
  | nil => intro i h; exact (Nat.not_lt_zero _ h).elim
  | cons x r ih =>
    intro i h
    cases i with
    | zero => rw [Nat.zero_mul, List.drop_zero, List.flatMap_cons, List.take_append_of_le_length (by rw [hen]; exact Nat.le_refl _), List.take_of_length_le (by rw [hen]; exact Nat.le_refl _)]; rfl
    | succ i =>
      have e : (i + 1) * k = (en x).length + i * k := by rw [hen, Nat.add_mul, Nat.one_mul, Nat.add_comm]
      rw [List.flatMap_cons, e, List.drop_append]
      rw [List.getElem_cons_succ]
      rw [List.drop_eq_nil_of_le (Nat.le_add_right _ _), List.nil_append, Nat.add_sub_cancel_left]
      exact ih i (by simpa using h)
theorem len_rdPt {w : World} {a : Option Addr} {n c : Nat} {l : List Pt} (h : Rd w 3 (.slice a n c) (cellsPt l)) : l.length = n := by
  obtain ⟨_, _, _, e, g, _⟩ := h
  cases e
  rw [cellsPt_len] at g; omega
end Go.Proofs.Qu
namespace Go.Proofs.Ytcelehhaggoijaa
open Go.Proofs.Qu Go.Proofs.Nm Go.RowKit Go.Proofs
theorem fieldsB : Try.prog.underlying 60 = some (.struct (Try.prog.fieldsOf 60)) := by kernel_rfl
theorem run_equalIn_boolT (w : World) (d : Nat) (b : Bool) : (Op.equalIn (d + 1) 4 (.bool b) (.bool b)).run Try.prog w = .ok true w := by
  simp [Op.equalIn, run_underlying Try.underlying4]
theorem equalIn_B0 (w : World) (d : Nat) (x1 x2 : Nat) (x3 : Bool) : (Op.equalIn (d + 2) 60 (.agg #[.int .i64 (x1 : Nat), .int .i64 (x2 : Nat), .bool x3]) (.agg #[.int .i64 (x1 : Nat), .int .i64 (x2 : Nat), .bool x3])).run Try.prog w = .ok true w := by
  have h := run_eqStruct (P := Try.prog) w (d + 1) 60 #[.int .i64 (x1 : Nat), .int .i64 (x2 : Nat), .bool x3] #[.int .i64 (x1 : Nat), .int .i64 (x2 : Nat), .bool x3] [(3, 0), (3, 1), (4, 2)] [(x1 : Int) == (x1 : Int), (x2 : Int) == (x2 : Int), true] fieldsB (by kernel_rfl) (by kernel_rfl) rfl (fun i hi hc => by
    match i, hi with
    | 0, _ => exact ⟨_, _, run_part_cell w _ _ _ _ _ Try.underlying3 rfl rfl, run_part_cell w _ _ _ _ _ Try.underlying3 rfl rfl, run_equalIn_int w d _ _ _ _ _ Try.underlying3⟩
    | 1, _ => exact ⟨_, _, run_part_cell w _ _ _ _ _ Try.underlying3 rfl rfl, run_part_cell w _ _ _ _ _ Try.underlying3 rfl rfl, run_equalIn_int w d _ _ _ _ _ Try.underlying3⟩
    | 2, _ => exact ⟨_, _, run_part_cell w _ _ _ _ _ Try.underlying4 rfl rfl, run_part_cell w _ _ _ _ _ Try.underlying4 rfl rfl, run_equalIn_boolT w d x3⟩)
  rw [h]
  simp
theorem equalIn_B (w : World) (x1 x2 : Nat) (x3 : Bool) : (Op.equalIn 10000 60 (.agg #[.int .i64 (x1 : Nat), .int .i64 (x2 : Nat), .bool x3]) (.agg #[.int .i64 (x1 : Nat), .int .i64 (x2 : Nat), .bool x3])).run Try.prog w = .ok true w := equalIn_B0 w 9998 x1 x2 x3
end Go.Proofs.Ytcelehhaggoijaa
