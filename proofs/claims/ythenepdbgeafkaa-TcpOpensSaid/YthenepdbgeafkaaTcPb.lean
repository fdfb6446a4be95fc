/-
 Two ends at work (layer 26): what the walks of the laws about both share.
-/
import Derived.Test.YthenepdbgeafkaaTcGa
import Derived.Test.YthenepdbgeafkaaGAN
import Derived.Test.YthenepdbgeafkaaGAC
import Derived.Test.YthenepdbgeafkaaTcOp
set_option linter.unusedVariables false
set_option linter.unusedSimpArgs false
namespace Go
theorem Mem.cast {w0 w : World} {L L' : LV} {R : LR} (h : Mem w0 w L R) (e : L = L') : Mem w0 w L' R := e ▸ h
end Go
namespace Go.Proofs.Tp
open Go Go.RowKit Go.Proofs.Wi
variable {R : LR}
theorem slots6 {b b' : Nat} {r r' : Array Value} {s1 s2 s3 s4 : Bny.Slot} (h1 : s1.reads = []) (h2 : s2.reads = []) (h3 : s3.reads = []) (h4 : s4.reads = []) : ∀ s ∈ [Bny.Slot.row b r, Bny.Slot.row b' r', s1, s2, s3, s4], s.reads = [] := by
 intro s hs
 simp only [List.mem_cons, List.not_mem_nil, or_false] at hs
 rcases hs with rfl | rfl | rfl | rfl | rfl | rfl
 · rfl
 · rfl
 · exact h1
 · exact h2
 · exact h3
 · exact h4
theorem QQ.slice' {v : Value} {q : List G} {sl : Bny.Slot} (h : QQ R q v sl) : ∃ ao n k, v = .slice ao n k ∧ q.length = n := by
 obtain ⟨ao, k, e⟩ := h.slice
 exact ⟨ao, _, k, e, rfl⟩
theorem lose4 {w0 w : World} {L : LV} {la : Option Addr} {ln lc k lq : Nat} {bl : List Bool} (hv : Mem w0 w L R) (hl : (1, .slice la ln lc, bl.map Value.bool) ∈ R) :
   (∃ b o, la = some ⟨b, o, none⟩ ∧ k < ln ∧ (bl.map Value.bool)[k]? = some (.bool true) ∧ lq < 2) ∨ ¬ k < ln ∨ (∃ b o, la = some ⟨b, o, none⟩ ∧ k < ln ∧ (bl.map Value.bool)[k]? = some (.bool false)) ∨ (∃ b o, la = some ⟨b, o, none⟩ ∧ k < ln ∧ (bl.map Value.bool)[k]? = some (.bool true) ∧ ¬ lq < 2) := by
 by_cases hk : k < ln
 · have hlen : bl.length = ln := by
     obtain ⟨_, _, _, e, h, _⟩ := hv.rd hl
     cases e
     rw [List.length_map] at h; omega
   obtain ⟨b, o, _, _, e, _⟩ := (hv.rd hl).some (by rw [List.length_map]; omega)
   cases e
   have hx : (bl.map Value.bool)[k]? = some (.bool (bl[k]'(by omega))) := by rw [List.getElem?_map, List.getElem?_eq_getElem (by omega)]; rfl
   rcases Bool.eq_false_or_eq_true (bl[k]'(by omega)) with h | h
   · rw [h] at hx
     by_cases h2 : lq < 2
     · exact .inl ⟨b, o, rfl, hk, hx, h2⟩
     · exact .inr (.inr (.inr ⟨b, o, rfl, hk, hx, h2⟩))
   · rw [h] at hx
     exact .inr (.inr (.inl ⟨b, o, rfl, hk, hx⟩))
 · exact .inr (.inl hk)
theorem InG.A {iss irs : Nat} {data : List Nat} {g : G} {sa : Option Addr} {sn sk : Nat} (hd : (1, Value.slice sa sn sk, cellsB g.data) ∈ R) (h : ∃ off len, 1 ≤ len ∧ len ≤ 64 ∧ off + len ≤ data.length ∧ g = gA iss irs data off len) : InG R g sa sn sk := by
 obtain ⟨off, len, h1, h2, h3, rfl⟩ := h
 refine ⟨hd, ?_, Tp.u32_lt _, Tp.u32_lt _⟩
 unfold chkG gA
 rw [decide_eq_true_eq]
 refine ⟨by show 1 ≤ 7; decide, by show 7 ≤ 65535; decide, by show 1 ≤ 80; decide, by show 80 ≤ 65535; decide, by show 24 ≤ 31; decide, by show 256 ≤ 65535; decide, ?_⟩
 show ((data.drop off).take len).length ≤ 64
 rw [List.length_take]; omega
theorem InG.B {iss irs p : Nat} {g : G} {sa : Option Addr} {sn sk : Nat} (hd : (1, Value.slice sa sn sk, cellsB g.data) ∈ R) (h : ∃ v w, v ≤ p ∧ 1 ≤ w ∧ w ≤ 256 ∧ g = gB iss irs v w) : InG R g sa sn sk := by
 obtain ⟨v, w, h1, h2, h3, rfl⟩ := h
 refine ⟨hd, ?_, Tp.u32_lt _, Tp.u32_lt _⟩
 unfold chkG gB
 rw [decide_eq_true_eq]
 exact ⟨by show 1 ≤ 80; decide, by show 80 ≤ 65535; decide, by show 1 ≤ 7; decide, by show 7 ≤ 65535; decide, by show 16 ≤ 31; decide, by show w ≤ 65535; omega, by show 0 ≤ 64; decide⟩
end Go.Proofs.Tp
namespace Go.Proofs.Ythenepdbgeafkaa
open Go.Proofs.Wi Go.RowKit Go.Proofs Go.Proofs.Tp
end Go.Proofs.Ythenepdbgeafkaa
