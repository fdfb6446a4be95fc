/-
 Structs that come in as arguments, whatever their fields; slices of bytes, of numbers. No program in sight.
-/
import Derived.Test.YthenepdbgeafkaaLaw
import Derived.Test.YthenepdbgeafkaaRd
import Derived.Test.YthenepdbgeafkaaGAG
set_option linter.unusedVariables false
set_option linter.unusedSimpArgs false
namespace Go
open Go.ChangeShapes Go.WideShapes Go.RowKit
section
variable {H : Type} {enc : TypeId × Value → H} {P : Program} {w : World} {base : Nat} {spare : Nat → Bool} {held : Bool}
theorem u32_of {q : Int} (h : (Lit.int .u32 q).wf = true) : ∃ n : Nat, q = (n : Nat) ∧ n < 4294967296 := by
 simp only [Lit.wf, Bool.and_eq_true, decide_eq_true_eq] at h
 have h1 : IntKind.u32.min = 0 := by decide
 have h2 : IntKind.u32.max = 4294967295 := by decide
 exact ⟨q.toNat, by omega, by omega⟩
theorem Mem.all {w : World} {R : LR} (h : ∀ x ∈ R, Rd w x.1 x.2.1 x.2.2) : Mem w w [] R :=
 ⟨Vars.nil w, fun x hx => ⟨h x hx, fun _ _ _ _ _ _ p hp => (List.not_mem_nil hp).elim⟩⟩
end
end Go
