/-
 Streams, bytes and parts that come in as arguments.
-/
import Derived.Test.YthenepdbgeafkaaOpen
import Derived.Test.YthenepdbgeafkaaGAM
set_option linter.unusedVariables false
set_option linter.unusedSimpArgs false
namespace Go.Proofs.Wi
open Go Go.RowKit
def RdSt (W : World) (nx : Nat) (bv pv : Value) (bs : List Nat) (l : List PcV) : Prop :=
 nx < 4294967296 ∧ Rd W 1 bv (cellsB bs) ∧ goodB bs ∧ Rd W 2 pv (cellsP l) ∧ ∀ p ∈ l, p.1 < 4294967296 ∧ Rd W 1 p.2.1 (cellsB p.2.2) ∧ goodB p.2.2
abbrev PtV := Int × Int × Bool
end Go.Proofs.Wi
namespace Go.Proofs.Ythenepdbgeafkaa
open Go.Proofs.Wi Go.RowKit Go.ChangeShapes Go.WideShapes
section
variable {H : Type} {enc : TypeId × Value → H} {w : World} {base : Nat} {spare : Nat → Bool} {held : Bool}
theorem wo_u8 : Try.prog.cellsOf 5 = 1 := by kernel_rfl
theorem open_bytesW {fuel : Nat} {cs : List Value} {x : DataW H × List MemPlace} (h : DataW.trod enc Try.prog w 0 spare held fuel 23 cs = some x) : ∃ v, cs = [v] ∧ ∃ l : List Nat, Rd w 1 v (cellsB l) ∧ goodB l := by
 obtain ⟨v, h1, l, h2, h3⟩ := open_rd_ints Try.underlying23 Try.underlying5 wo_u8 h
 refine ⟨v, h1, l.map Int.toNat, ?_, fun x hx => ?_⟩
 · have : cellsB (l.map Int.toNat) = l.map (Value.int .u8) := by
     unfold cellsB
     rw [List.map_map]
     apply List.map_congr_left
     intro q hq
     obtain ⟨n, rfl, _⟩ := u8_of (h3 q hq)
     simp
   rw [this]; exact h2
 · obtain ⟨q, hq, rfl⟩ := List.mem_map.1 hx
   obtain ⟨n, rfl, hn⟩ := u8_of (h3 q hq)
   simpa using hn
instance : Inhabited PcV := ⟨(0, .slice none 0 0, [])⟩
instance : Inhabited PtV := ⟨(0, 0, false)⟩
end
end Go.Proofs.Ythenepdbgeafkaa
