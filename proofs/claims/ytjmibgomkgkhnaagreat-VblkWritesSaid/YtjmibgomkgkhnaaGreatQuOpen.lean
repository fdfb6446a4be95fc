/-
 Numbers and used ones that come in as arguments.
-/
import Derived.Test.YtjmibgomkgkhnaaGreatOpen
import Derived.Test.YtjmibgomkgkhnaaGreatQuRV
set_option linter.unusedVariables false
set_option linter.unusedSimpArgs false
namespace Go.Proofs.Qu
open Go Go.RowKit Go.Proofs.Nm
end Go.Proofs.Qu
namespace Go.Proofs.YtjmibgomkgkhnaaGreat
open Go.Proofs.Qu Go.RowKit Go.ChangeShapes Go.WideShapes
section
variable {H : Type} {enc : TypeId × Value → H} {w : World} {base : Nat} {spare : Nat → Bool} {held : Bool}
theorem qo_i : Tryz.prog.cellsOf 3 = 1 := by kernel_rfl
theorem open_intsQ {fuel : Nat} {cs : List Value} {x : DataW H × List MemPlace} (h : DataW.trod enc Tryz.prog w 0 spare held fuel 22 cs = some x) : ∃ v, cs = [v] ∧ ∃ l : List Int, Rd w 1 v (l.map (Value.int .i64)) ∧ ∀ x ∈ l, -9223372036854775808 ≤ x ∧ x ≤ 9223372036854775807 := by
 obtain ⟨v, h1, l, h2, h3⟩ := open_rd_ints Tryz.underlying22 Tryz.underlying3 qo_i h
 exact ⟨v, h1, l, h2, fun x hx => i64_of (h3 x hx)⟩
end
end Go.Proofs.YtjmibgomkgkhnaaGreat
