/-
 Texts (slices of bytes) that come in as an argument.
-/
import Derived.Test.YtjmibgomkgkhnaaGreatOpen
import Derived.Test.YtjmibgomkgkhnaaGreatQuRV
set_option linter.unusedVariables false
set_option linter.unusedSimpArgs false
namespace Go.Proofs.YtjmibgomkgkhnaaGreat
open Go.Proofs.Qu Go.Proofs.Nm Go.RowKit Go.ChangeShapes Go.WideShapes
section
variable {H : Type} {enc : TypeId × Value → H} {w : World} {base : Nat} {spare : Nat → Bool} {held : Bool}
theorem vo_u8 : Tryz.prog.cellsOf 5 = 1 := by kernel_rfl
theorem vo_bs : Tryz.prog.cellsOf 24 = 1 := by kernel_rfl
theorem open_bytesV {fuel : Nat} {cs : List Value} {x : DataW H × List MemPlace} (h : DataW.trod enc Tryz.prog w 0 spare held fuel 24 cs = some x) : ∃ v, cs = [v] ∧ ∃ l : List Nat, Rd w 1 v (cellsB l) ∧ goodB l := by
 obtain ⟨v, h1, l, h2, h3⟩ := open_rd_ints Tryz.underlying24 Tryz.underlying5 vo_u8 h
 refine ⟨v, h1, l.map Int.toNat, ?_, fun x hx => ?_⟩
 · have : cellsB (l.map Int.toNat) = l.map (Value.int .u8) := by
     unfold cellsB
     rw [List.map_map]
     apply List.map_congr_left
     intro q hq
     obtain ⟨n, rfl, _⟩ := u8_of (h3 q hq)
     simp
   rw [this]; exact h2
 · obtain ⟨q, hq, rfl⟩ := List.mem_map.1 hx
   obtain ⟨n, rfl, hn⟩ := u8_of (h3 q hq)
   simpa using hn
abbrev TxV := Value × List Nat
instance : Inhabited TxV := ⟨(.slice none 0 0, [])⟩
theorem open_texts {fuel : Nat} {cs : List Value} {x : DataW H × List MemPlace} (h : DataW.trod enc Tryz.prog w 0 spare held fuel 46 cs = some x) : ∃ v, cs = [v] ∧ ∃ l : List TxV, Rd w 1 v (l.map (·.1)) ∧ ∀ p ∈ l, Rd w 1 p.1 (cellsB p.2) ∧ goodB p.2 := by
 obtain ⟨v, h1, l, h2, h3⟩ := open_rd (fun p : TxV => [p.1]) (fun p => Rd w 1 p.1 (cellsB p.2) ∧ goodB p.2) 1 (by omega) Tryz.underlying46 vo_bs (fun _ => rfl) (fun n cs' d hd => by
   obtain ⟨u, e1, l, e2, e3⟩ := open_bytesV hd
   exact ⟨(u, l), e1, e2, e3⟩) h
 refine ⟨v, h1, l, ?_, h3⟩
 have e : l.flatMap (fun p : TxV => [p.1]) = l.map (·.1) := by
   clear h2 h3
   induction l with
   | nil => rfl
   | cons a r ih => rw [List.flatMap_cons, ih]; rfl
 rw [← e]; exact h2
theorem texts_mem {v : Value} {l : List TxV} (h1 : Rd w 1 v (l.map (·.1))) (h2 : ∀ p ∈ l, Rd w 1 p.1 (cellsB p.2) ∧ goodB p.2) : ∃ R, Mem w w [] R ∧ (1, v, l.map (·.1)) ∈ R ∧ ∀ p ∈ l, (1, p.1, cellsB p.2) ∈ R ∧ goodB p.2 := by
 refine ⟨(1, v, l.map (·.1)) :: l.map (fun p => (1, p.1, cellsB p.2)), Mem.all fun x hx => ?_, Mem.z, fun p hp => ⟨Mem.s (List.mem_map.2 ⟨p, hp, rfl⟩), (h2 p hp).2⟩⟩
 rcases List.mem_cons.1 hx with rfl | hx
 · exact h1
 · obtain ⟨p, hp, rfl⟩ := List.mem_map.1 hx
   exact (h2 p hp).1
end
end Go.Proofs.YtjmibgomkgkhnaaGreat
