/-
 Streams, bytes and parts that come in as arguments.
-/
import Derived.Test.YthenepdbgeafkaaOpen
import Derived.Test.YthenepdbgeafkaaGAN
set_option linter.unusedVariables false
set_option linter.unusedSimpArgs false
namespace Go.Proofs.Wi
open Go Go.RowKit
def RdSt (W : World) (nx : Nat) (bv pv : Value) (bs : List Nat) (l : List PcV) : Prop :=
 nx < 4294967296 ∧ Rd W 1 bv (cellsB bs) ∧ goodB bs ∧ Rd W 2 pv (cellsP l) ∧ ∀ p ∈ l, p.1 < 4294967296 ∧ Rd W 1 p.2.1 (cellsB p.2.2) ∧ goodB p.2.2
abbrev PtV := Int × Int × Bool
end Go.Proofs.Wi
namespace Go.Proofs.Ythenepdbgeafkaa
open Go.Proofs.Wi Go.RowKit Go.ChangeShapes Go.WideShapes
section
variable {H : Type} {enc : TypeId × Value → H} {w : World} {base : Nat} {spare : Nat → Bool} {held : Bool}
theorem wo_b : Try.prog.cellsOf 4 = 1 := by kernel_rfl
instance : Inhabited PcV := ⟨(0, .slice none 0 0, [])⟩
instance : Inhabited PtV := ⟨(0, 0, false)⟩
end
end Go.Proofs.Ythenepdbgeafkaa
