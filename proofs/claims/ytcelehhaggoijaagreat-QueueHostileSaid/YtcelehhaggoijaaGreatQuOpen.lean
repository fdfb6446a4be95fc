/-
  Numbers and used ones that come in as arguments.
-/
import Derived.Test.YtcelehhaggoijaaGreatOpen
import Derived.Test.YtcelehhaggoijaaGreatQuHd
set_option linter.unusedVariables false
set_option linter.unusedSimpArgs false
namespace Go.Proofs.Qu
open Go Go.RowKit Go.Proofs.Nm
/-- A used one: whose, how much. -/
abbrev Us := Nat × Nat
def encU (u : Us) : List Value := [.int .u32 (u.1 : Nat), .int .u32 (u.2 : Nat)]
def cellsU (l : List Us) : List Value := l.flatMap encU
theorem cellsU_len (l : List Us) : (cellsU l).length = l.length * 2 := len_flat (en := encU) (fun _ => rfl) l
theorem u16_of {q : Int} (h : (Lit.int .u16 q).wf = true) : ∃ n : Nat, q = (n : Nat) ∧ n < 65536 := by
  simp only [Lit.wf, Bool.and_eq_true, decide_eq_true_eq] at h
  have h1 : IntKind.u16.min = 0 := by decide
  have h2 : IntKind.u16.max = 65535 := by decide
  exact ⟨q.toNat, by omega, by omega⟩
end Go.Proofs.Qu
namespace Go.Proofs.YtcelehhaggoijaaGreat
open Go.Proofs.Qu Go.RowKit Go.ChangeShapes Go.WideShapes
section
variable {H : Type} {enc : TypeId × Value → H} {w : World} {base : Nat} {spare : Nat → Bool} {held : Bool}
theorem qo_i : Tryz.prog.cellsOf 3 = 1 := by kernel_rfl
theorem qo_u16 : Tryz.prog.cellsOf 29 = 1 := by kernel_rfl
theorem qo_u32 : Tryz.prog.cellsOf 43 = 1 := by kernel_rfl
theorem qo_us : Tryz.prog.cellsOf 45 = 2 := by kernel_rfl
theorem fieldsUs : (Tryz.prog.fieldsOf 45).toList.map (fun f => (f.type, f.offset)) = [(43, 0), (43, 1)] := by kernel_rfl
theorem structUs : Tryz.prog.underlying 45 = some (.struct (Tryz.prog.fieldsOf 45)) := by kernel_rfl
theorem open_intsQ {fuel : Nat} {cs : List Value} {x : DataW H × List MemPlace} (h : DataW.trod enc Tryz.prog w 0 spare held fuel 22 cs = some x) : ∃ v, cs = [v] ∧ ∃ l : List Int, Rd w 1 v (l.map (Value.int .i64)) ∧ ∀ x ∈ l, -9223372036854775808 ≤ x ∧ x ≤ 9223372036854775807 := by
  obtain ⟨v, h1, l, h2, h3⟩ := open_rd_ints Tryz.underlying22 Tryz.underlying3 qo_i h
  exact ⟨v, h1, l, h2, fun x hx => i64_of (h3 x hx)⟩
theorem open_u16s {fuel : Nat} {cs : List Value} {x : DataW H × List MemPlace} (h : DataW.trod enc Tryz.prog w 0 spare held fuel 24 cs = some x) : ∃ v, cs = [v] ∧ ∃ l : List Nat, Rd w 1 v (l.map fun n => Value.int .u16 (n : Nat)) ∧ ∀ x ∈ l, x < 65536 := by
  obtain ⟨v, h1, l, h2, h3⟩ := open_rd_ints Tryz.underlying24 Tryz.underlying29 qo_u16 h
  refine ⟨v, h1, l.map Int.toNat, ?_, fun x hx => ?_⟩
  · have : (l.map Int.toNat).map (fun n => Value.int .u16 (n : Nat)) = l.map (Value.int .u16) := by
      rw [List.map_map]
      apply List.map_congr_left
      intro q hq
      obtain ⟨n, rfl, _⟩ := u16_of (h3 q hq)
      simp
    rw [this]; exact h2
  · obtain ⟨q, hq, rfl⟩ := List.mem_map.1 hx
    obtain ⟨n, rfl, hn⟩ := u16_of (h3 q hq)
    simpa using hn
theorem open_useds {fuel : Nat} {cs : List Value} {x : DataW H × List MemPlace} (h : DataW.trod enc Tryz.prog w 0 spare held fuel 23 cs = some x) : ∃ v, cs = [v] ∧ ∃ l : List Us, Rd w 2 v (cellsU l) ∧ ∀ u ∈ l, u.1 < 4294967296 ∧ u.2 < 4294967296 := by
  refine open_rd encU (fun u => u.1 < 4294967296 ∧ u.2 < 4294967296) 2 (by omega) Tryz.underlying23 qo_us (fun _ => rfl) (fun n cs' d hd => ?_) h
  obtain ⟨hl, m, hf⟩ := open_str structUs fieldsUs hd
  obtain ⟨y0, e0⟩ := hf 0 _ rfl
  obtain ⟨q0, g0, w0⟩ := cell_int Tryz.underlying43 qo_u32 e0
  obtain ⟨y1, e1⟩ := hf 1 _ rfl
  obtain ⟨q1, g1, w1⟩ := cell_int Tryz.underlying43 qo_u32 e1
  obtain ⟨n0, rfl, b0⟩ := u32_of w0
  obtain ⟨n1, rfl, b1⟩ := u32_of w1
  rw [qo_us] at hl
  refine ⟨(n0, n1), ?_, b0, b1⟩
  apply List.ext_getElem?
  intro j
  match j with
  | 0 => exact g0
  | 1 => exact g1
  | j + 2 => rw [List.getElem?_eq_none (by omega), List.getElem?_eq_none (by unfold encU; simp)]
end
end Go.Proofs.YtcelehhaggoijaaGreat
