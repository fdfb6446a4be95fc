/-
 Streams, bytes and parts that come in as arguments.
-/
import Derived.Test.YthenepdbgeafkaaOpen
import Derived.Test.YthenepdbgeafkaaGAM
set_option linter.unusedVariables false
set_option linter.unusedSimpArgs false
namespace Go.Proofs.Wi
open Go Go.RowKit
def RdSt (W : World) (nx : Nat) (bv pv : Value) (bs : List Nat) (l : List PcV) : Prop :=
 nx < 4294967296 ∧ Rd W 1 bv (cellsB bs) ∧ goodB bs ∧ Rd W 2 pv (cellsP l) ∧ ∀ p ∈ l, p.1 < 4294967296 ∧ Rd W 1 p.2.1 (cellsB p.2.2) ∧ goodB p.2.2
abbrev PtV := Int × Int × Bool
end Go.Proofs.Wi
namespace Go.Proofs.Ythenepdbgeafkaa
open Go.Proofs.Wi Go.RowKit Go.ChangeShapes Go.WideShapes
section
variable {H : Type} {enc : TypeId × Value → H} {w : World} {base : Nat} {spare : Nat → Bool} {held : Bool}
theorem fieldsSt : (Try.prog.fieldsOf 27).toList.map (fun f => (f.type, f.offset)) = [(22, 0), (23, 1), (25, 2)] := by kernel_rfl
theorem structSt : Try.prog.underlying 27 = some (.struct (Try.prog.fieldsOf 27)) := by kernel_rfl
theorem fieldsPc : (Try.prog.fieldsOf 95).toList.map (fun f => (f.type, f.offset)) = [(22, 0), (23, 1)] := by kernel_rfl
theorem structPc : Try.prog.underlying 95 = some (.struct (Try.prog.fieldsOf 95)) := by kernel_rfl
theorem wo_u32 : Try.prog.cellsOf 22 = 1 := by kernel_rfl
theorem wo_u8 : Try.prog.cellsOf 5 = 1 := by kernel_rfl
theorem wo_i : Try.prog.cellsOf 3 = 1 := by kernel_rfl
theorem wo_b : Try.prog.cellsOf 4 = 1 := by kernel_rfl
theorem wo_bs : Try.prog.cellsOf 23 = 1 := by kernel_rfl
theorem wo_ps : Try.prog.cellsOf 25 = 1 := by kernel_rfl
theorem wo_st : Try.prog.cellsOf 27 = 3 := by kernel_rfl
theorem wo_pc : Try.prog.cellsOf 95 = 2 := by kernel_rfl
theorem open_bytesW {fuel : Nat} {cs : List Value} {x : DataW H × List MemPlace} (h : DataW.trod enc Try.prog w 0 spare held fuel 23 cs = some x) : ∃ v, cs = [v] ∧ ∃ l : List Nat, Rd w 1 v (cellsB l) ∧ goodB l := by
 obtain ⟨v, h1, l, h2, h3⟩ := open_rd_ints Try.underlying23 Try.underlying5 wo_u8 h
 refine ⟨v, h1, l.map Int.toNat, ?_, fun x hx => ?_⟩
 · have : cellsB (l.map Int.toNat) = l.map (Value.int .u8) := by
     unfold cellsB
     rw [List.map_map]
     apply List.map_congr_left
     intro q hq
     obtain ⟨n, rfl, _⟩ := u8_of (h3 q hq)
     simp
   rw [this]; exact h2
 · obtain ⟨q, hq, rfl⟩ := List.mem_map.1 hx
   obtain ⟨n, rfl, hn⟩ := u8_of (h3 q hq)
   simpa using hn
theorem open_piece {n : Nat} {cs : List Value} {d : DataW H × List MemPlace} (hd : DataW.trod enc Try.prog w 0 spare held n 95 cs = some d) : ∃ p : PcV, cs = encP p ∧ p.1 < 4294967296 ∧ Rd w 1 p.2.1 (cellsB p.2.2) ∧ goodB p.2.2 := by
 obtain ⟨hl, m, hf⟩ := open_str structPc fieldsPc hd
 obtain ⟨y0, e0⟩ := hf 0 _ rfl
 obtain ⟨y1, e1⟩ := hf 1 _ rfl
 obtain ⟨a, ga, wa⟩ := cell_int Try.underlying22 wo_u32 e0
 obtain ⟨a, rfl, ha⟩ := u32_of wa
 obtain ⟨v, gv, l, hr, hg⟩ := open_bytesW e1
 rw [wo_bs] at gv
 have gv' := take_1 gv
 rw [wo_pc] at hl
 refine ⟨(a, v, l), ?_, ha, hr, hg⟩
 apply List.ext_getElem?
 intro i
 unfold encP
 rcases (show i = 0 ∨ i = 1 ∨ 2 ≤ i from by omega) with rfl | rfl | hi
 · rw [ga]; rfl
 · rw [gv']; rfl
 · rw [List.getElem?_eq_none (by omega), List.getElem?_eq_none (by simp; omega)]
instance : Inhabited PcV := ⟨(0, .slice none 0 0, [])⟩
theorem open_pieces {fuel : Nat} {cs : List Value} {x : DataW H × List MemPlace} (h : DataW.trod enc Try.prog w 0 spare held fuel 25 cs = some x) : ∃ v, cs = [v] ∧ ∃ l : List PcV, Rd w 2 v (cellsP l) ∧ ∀ p ∈ l, p.1 < 4294967296 ∧ Rd w 1 p.2.1 (cellsB p.2.2) ∧ goodB p.2.2 :=
 open_rd encP (fun p => p.1 < 4294967296 ∧ Rd w 1 p.2.1 (cellsB p.2.2) ∧ goodB p.2.2) 2 (by omega) Try.underlying25 wo_pc (fun _ => rfl) (fun n cs' d hd => open_piece hd) h
instance : Inhabited PtV := ⟨(0, 0, false)⟩
end
end Go.Proofs.Ythenepdbgeafkaa
