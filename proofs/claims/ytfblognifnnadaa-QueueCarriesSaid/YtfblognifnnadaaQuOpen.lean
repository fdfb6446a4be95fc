/-
  Numbers and used ones that come in as arguments.
-/
import Derived.Test.YtfblognifnnadaaOpen
import Derived.Test.YtfblognifnnadaaQuHeadA
set_option linter.unusedVariables false
set_option linter.unusedSimpArgs false
namespace Go.Proofs.Qu
open Go Go.RowKit Go.Proofs.Nm
/-- A used one: whose, how much. -/
abbrev Us := Nat × Nat
def encU (u : Us) : List Value := [.int .u32 (u.1 : Nat), .int .u32 (u.2 : Nat)]
def cellsU (l : List Us) : List Value := l.flatMap encU
theorem cellsU_len (l : List Us) : (cellsU l).length = l.length * 2 := len_flat (en := encU) (fun _ => rfl) l
theorem u16_of {q : Int} (h : (Lit.int .u16 q).wf = true) : ∃ n : Nat, q = (n : Nat) ∧ n < 65536 := by
  simp only [Lit.wf, Bool.and_eq_true, decide_eq_true_eq] at h
  have h1 : IntKind.u16.min = 0 := by decide
  have h2 : IntKind.u16.max = 65535 := by decide
  exact ⟨q.toNat, by omega, by omega⟩
end Go.Proofs.Qu
namespace Go.Proofs.Ytfblognifnnadaa
open Go.Proofs.Qu Go.RowKit Go.ChangeShapes Go.WideShapes
section
variable {H : Type} {enc : TypeId × Value → H} {w : World} {base : Nat} {spare : Nat → Bool} {held : Bool}
theorem qo_i : Try.prog.cellsOf 3 = 1 := by kernel_rfl
theorem qo_u16 : Try.prog.cellsOf 41 = 1 := by kernel_rfl
theorem qo_u32 : Try.prog.cellsOf 105 = 1 := by kernel_rfl
theorem qo_us : Try.prog.cellsOf 125 = 2 := by kernel_rfl
theorem fieldsUs : (Try.prog.fieldsOf 125).toList.map (fun f => (f.type, f.offset)) = [(105, 0), (105, 1)] := by kernel_rfl
theorem structUs : Try.prog.underlying 125 = some (.struct (Try.prog.fieldsOf 125)) := by kernel_rfl
theorem open_intsQ {fuel : Nat} {cs : List Value} {x : DataW H × List MemPlace} (h : DataW.trod enc Try.prog w 0 spare held fuel 31 cs = some x) : ∃ v, cs = [v] ∧ ∃ l : List Int, Rd w 1 v (l.map (Value.int .i64)) ∧ ∀ x ∈ l, -9223372036854775808 ≤ x ∧ x ≤ 9223372036854775807 := by
  obtain ⟨v, h1, l, h2, h3⟩ := open_rd_ints Try.underlying31 Try.underlying3 qo_i h
  exact ⟨v, h1, l, h2, fun x hx => i64_of (h3 x hx)⟩
end
end Go.Proofs.Ytfblognifnnadaa
