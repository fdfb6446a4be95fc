/-
 Texts (slices of bytes) that come in as an argument.
-/
import Derived.Test.YtjmibgomkgkhnaaGreatOpen
import Derived.Test.YtjmibgomkgkhnaaGreatQuRV
set_option linter.unusedVariables false
set_option linter.unusedSimpArgs false
namespace Go.Proofs.YtjmibgomkgkhnaaGreat
open Go.Proofs.Qu Go.Proofs.Nm Go.RowKit Go.ChangeShapes Go.WideShapes
section
variable {H : Type} {enc : TypeId × Value → H} {w : World} {base : Nat} {spare : Nat → Bool} {held : Bool}
theorem vo_u8 : Tryz.prog.cellsOf 5 = 1 := by kernel_rfl
theorem open_bytesV {fuel : Nat} {cs : List Value} {x : DataW H × List MemPlace} (h : DataW.trod enc Tryz.prog w 0 spare held fuel 24 cs = some x) : ∃ v, cs = [v] ∧ ∃ l : List Nat, Rd w 1 v (cellsB l) ∧ goodB l := by
 obtain ⟨v, h1, l, h2, h3⟩ := open_rd_ints Tryz.underlying24 Tryz.underlying5 vo_u8 h
 refine ⟨v, h1, l.map Int.toNat, ?_, fun x hx => ?_⟩
 · have : cellsB (l.map Int.toNat) = l.map (Value.int .u8) := by
     unfold cellsB
     rw [List.map_map]
     apply List.map_congr_left
     intro q hq
     obtain ⟨n, rfl, _⟩ := u8_of (h3 q hq)
     simp
   rw [this]; exact h2
 · obtain ⟨q, hq, rfl⟩ := List.mem_map.1 hx
   obtain ⟨n, rfl, hn⟩ := u8_of (h3 q hq)
   simpa using hn
abbrev TxV := Value × List Nat
instance : Inhabited TxV := ⟨(.slice none 0 0, [])⟩
end
end Go.Proofs.YtjmibgomkgkhnaaGreat
