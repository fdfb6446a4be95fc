/-
  Streams, bytes and parts that come in as arguments.
-/
import Derived.Test.YtpbeemgigpaacaaOpen
import Derived.Test.YtpbeemgigpaacaaWiStr
set_option linter.unusedVariables false
set_option linter.unusedSimpArgs false
namespace Go.Proofs.Wi
open Go Go.RowKit
/-- The value v is a stream that reads s. -/
def RdSt (W : World) (nx : Nat) (bv pv : Value) (bs : List Nat) (l : List PcV) : Prop :=
  nx < 4294967296 ∧ Rd W 1 bv (cellsB bs) ∧ goodB bs ∧ Rd W 2 pv (cellsP l) ∧ ∀ p ∈ l, p.1 < 4294967296 ∧ Rd W 1 p.2.1 (cellsB p.2.2) ∧ goodB p.2.2
/-- Parts: from, length, read. -/
abbrev PtV := Int × Int × Bool
def encT (p : PtV) : List Value := [.int .i64 p.1, .int .i64 p.2.1, .bool p.2.2]
def cellsT (l : List PtV) : List Value := l.flatMap encT
def goodT (p : PtV) : Prop := (-9223372036854775808 ≤ p.1 ∧ p.1 ≤ 9223372036854775807) ∧ -9223372036854775808 ≤ p.2.1 ∧ p.2.1 ≤ 9223372036854775807
end Go.Proofs.Wi
namespace Go.Proofs.Ytpbeemgigpaacaa
open Go.Proofs.Wi Go.RowKit Go.ChangeShapes Go.WideShapes
section
variable {H : Type} {enc : TypeId × Value → H} {w : World} {base : Nat} {spare : Nat → Bool} {held : Bool}
theorem fieldsSt : (Try.prog.fieldsOf 26).toList.map (fun f => (f.type, f.offset)) = [(22, 0), (23, 1), (24, 2)] := by kernel_rfl
theorem structSt : Try.prog.underlying 26 = some (.struct (Try.prog.fieldsOf 26)) := by kernel_rfl
theorem fieldsPc : (Try.prog.fieldsOf 45).toList.map (fun f => (f.type, f.offset)) = [(22, 0), (23, 1)] := by kernel_rfl
theorem structPc : Try.prog.underlying 45 = some (.struct (Try.prog.fieldsOf 45)) := by kernel_rfl
theorem fieldsPt : (Try.prog.fieldsOf 40).toList.map (fun f => (f.type, f.offset)) = [(3, 0), (3, 1), (4, 2)] := by kernel_rfl
theorem structPt : Try.prog.underlying 40 = some (.struct (Try.prog.fieldsOf 40)) := by kernel_rfl
theorem wo_u32 : Try.prog.cellsOf 22 = 1 := by kernel_rfl
theorem wo_u8 : Try.prog.cellsOf 5 = 1 := by kernel_rfl
theorem wo_i : Try.prog.cellsOf 3 = 1 := by kernel_rfl
theorem wo_b : Try.prog.cellsOf 4 = 1 := by kernel_rfl
theorem wo_bs : Try.prog.cellsOf 23 = 1 := by kernel_rfl
theorem wo_ps : Try.prog.cellsOf 24 = 1 := by kernel_rfl
theorem wo_st : Try.prog.cellsOf 26 = 3 := by kernel_rfl
theorem wo_pc : Try.prog.cellsOf 45 = 2 := by kernel_rfl
theorem wo_pt : Try.prog.cellsOf 40 = 3 := by kernel_rfl
theorem open_bytesW {fuel : Nat} {cs : List Value} {x : DataW H × List MemPlace} (h : DataW.trod enc Try.prog w 0 spare held fuel 23 cs = some x) : ∃ v, cs = [v] ∧ ∃ l : List Nat, Rd w 1 v (cellsB l) ∧ goodB l := by
  obtain ⟨v, h1, l, h2, h3⟩ := open_rd_ints Try.underlying23 Try.underlying5 wo_u8 h
  refine ⟨v, h1, l.map Int.toNat, ?_, fun x hx => ?_⟩
  · have : cellsB (l.map Int.toNat) = l.map (Value.int .u8) := by
      unfold cellsB
      rw [List.map_map]
      apply List.map_congr_left
      intro q hq
      obtain ⟨n, rfl, _⟩ := u8_of (h3 q hq)
      simp
    rw [this]; exact h2
  · obtain ⟨q, hq, rfl⟩ := List.mem_map.1 hx
    obtain ⟨n, rfl, hn⟩ := u8_of (h3 q hq)
    simpa using hn
theorem open_intsW {fuel : Nat} {cs : List Value} {x : DataW H × List MemPlace} (h : DataW.trod enc Try.prog w 0 spare held fuel 42 cs = some x) : ∃ v, cs = [v] ∧ ∃ l : List Int, Rd w 1 v (l.map (Value.int .i64)) ∧ ∀ x ∈ l, -9223372036854775808 ≤ x ∧ x ≤ 9223372036854775807 := by
  obtain ⟨v, h1, l, h2, h3⟩ := open_rd_ints Try.underlying42 Try.underlying3 wo_i h
  exact ⟨v, h1, l, h2, fun x hx => i64_of (h3 x hx)⟩
theorem open_piece {n : Nat} {cs : List Value} {d : DataW H × List MemPlace} (hd : DataW.trod enc Try.prog w 0 spare held n 45 cs = some d) : ∃ p : PcV, cs = encP p ∧ p.1 < 4294967296 ∧ Rd w 1 p.2.1 (cellsB p.2.2) ∧ goodB p.2.2 := by
  obtain ⟨hl, m, hf⟩ := open_str structPc fieldsPc hd
  obtain ⟨y0, e0⟩ := hf 0 _ rfl
  obtain ⟨y1, e1⟩ := hf 1 _ rfl
  obtain ⟨a, ga, wa⟩ := cell_int Try.underlying22 wo_u32 e0
  obtain ⟨a, rfl, ha⟩ := u32_of wa
  obtain ⟨v, gv, l, hr, hg⟩ := open_bytesW e1
  rw [wo_bs] at gv
  have gv' := take_1 gv
  rw [wo_pc] at hl
  refine ⟨(a, v, l), ?_, ha, hr, hg⟩
  apply List.ext_getElem?
  intro i
  unfold encP
  rcases (show i = 0 ∨ i = 1 ∨ 2 ≤ i from by omega) with rfl | rfl | hi
  · rw [ga]; rfl
  · rw [gv']; rfl
  · rw [List.getElem?_eq_none (by omega), List.getElem?_eq_none (by simp; omega)]
instance : Inhabited PcV := ⟨(0, .slice none 0 0, [])⟩
theorem open_pieces {fuel : Nat} {cs : List Value} {x : DataW H × List MemPlace} (h : DataW.trod enc Try.prog w 0 spare held fuel 24 cs = some x) : ∃ v, cs = [v] ∧ ∃ l : List PcV, Rd w 2 v (cellsP l) ∧ ∀ p ∈ l, p.1 < 4294967296 ∧ Rd w 1 p.2.1 (cellsB p.2.2) ∧ goodB p.2.2 :=
  open_rd encP (fun p => p.1 < 4294967296 ∧ Rd w 1 p.2.1 (cellsB p.2.2) ∧ goodB p.2.2) 2 (by omega) Try.underlying24 wo_pc (fun _ => rfl) (fun n cs' d hd => open_piece hd) h
theorem open_stream {v : Value} {d : DataW H} {ps : List MemPlace} (h : DataW.Trod enc Try.prog w 0 spare held 26 v d ps) :
    ∃ nx bv pv bs l, v = .agg #[.int .u32 ((nx : Nat) : Int), bv, pv] ∧ RdSt w nx bv pv bs l := by
  obtain ⟨fuel, h⟩ := h
  obtain ⟨hl, m, hf⟩ := open_str structSt fieldsSt h
  rw [wo_st] at hl
  obtain ⟨cs, rfl⟩ := agg_of hl (by omega)
  simp only [Value.cells] at hl hf
  obtain ⟨y0, e0⟩ := hf 0 _ rfl
  obtain ⟨y1, e1⟩ := hf 1 _ rfl
  obtain ⟨y2, e2⟩ := hf 2 _ rfl
  obtain ⟨a, g0, wa⟩ := cell_int Try.underlying22 wo_u32 e0
  obtain ⟨a, rfl, ha⟩ := u32_of wa
  obtain ⟨bv, g1, bs, r1, q1⟩ := open_bytesW e1
  obtain ⟨pv, g2, l, r2, q2⟩ := open_pieces e2
  rw [wo_bs] at g1
  rw [wo_ps] at g2
  have g1' := take_1 g1
  have g2' := take_1 g2
  refine ⟨a, bv, pv, bs, l, ?_, ha, r1, q1, r2, q2⟩
  refine congrArg Value.agg ?_
  apply Array.ext_getElem?
  intro i
  rw [← Array.getElem?_toList]
  match i with
  | 0 => rw [g0]; rfl
  | 1 => rw [g1']; rfl
  | 2 => rw [g2']; rfl
  | i + 3 => rw [List.getElem?_eq_none (by omega), Array.getElem?_eq_none (by simp)]
instance : Inhabited PtV := ⟨(0, 0, false)⟩
theorem open_parts {fuel : Nat} {cs : List Value} {x : DataW H × List MemPlace} (h : DataW.trod enc Try.prog w 0 spare held fuel 38 cs = some x) : ∃ v, cs = [v] ∧ ∃ l : List PtV, Rd w 3 v (cellsT l) ∧ ∀ p ∈ l, goodT p := by
  refine open_rd encT goodT 3 (by omega) Try.underlying38 wo_pt (fun _ => rfl) (fun n cs' d hd => ?_) h
  obtain ⟨hl, m, hf⟩ := open_str structPt fieldsPt hd
  obtain ⟨y0, e0⟩ := hf 0 _ rfl
  obtain ⟨y1, e1⟩ := hf 1 _ rfl
  obtain ⟨y2, e2⟩ := hf 2 _ rfl
  obtain ⟨a, ga, wa⟩ := cell_int Try.underlying3 wo_i e0
  obtain ⟨b, gb, wb⟩ := cell_int Try.underlying3 wo_i e1
  obtain ⟨c, gc⟩ := cell_bool Try.underlying4 wo_b e2
  rw [wo_pt] at hl
  refine ⟨(a, b, c), ?_, i64_of wa, i64_of wb⟩
  apply List.ext_getElem?
  intro i
  unfold encT
  rcases (show i = 0 ∨ i = 1 ∨ i = 2 ∨ 3 ≤ i from by omega) with rfl | rfl | rfl | hi
  · rw [ga]; rfl
  · rw [gb]; rfl
  · rw [gc]; rfl
  · rw [List.getElem?_eq_none (by omega), List.getElem?_eq_none (by simp; omega)]
end
end Go.Proofs.Ytpbeemgigpaacaa
