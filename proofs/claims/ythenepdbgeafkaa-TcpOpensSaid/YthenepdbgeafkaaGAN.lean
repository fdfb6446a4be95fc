import Derived.Test.YthenepdbgeafkaaGAK
import Derived.Lib.BufferRead
set_option linter.unusedSimpArgs false
set_option linter.unusedVariables false
set_option maxRecDepth 100000
set_option maxHeartbeats 4000000
section
/-
 Bytes held against bytes: the reference's Bytes; streams held against each other: Same.
-/
namespace Go.Proofs.Wi
def goodB (l : List Nat) : Prop := ∀ x ∈ l, x < 256
end Go.Proofs.Wi
namespace Go
open Go.RowKit Go.Proofs.Wi
def bstr (l : List Nat) : ByteArray := ⟨(l.map UInt8.ofNat).toArray⟩
theorem run_str {P : Program} {w : World} {v : Value} {l : List Nat} (src dst e : TypeId) (hs : P.underlying src = some (.slice e)) (he : P.underlying e = some (.int .u8)) (hd : P.underlying dst = some .string) (hrd : Rd w 1 v (cellsB l)) (hg : goodB l) :
   (convert src dst v).run P w = .ok (.string (bstr l)) w := by
 obtain ⟨ao, n, cap, rfl, h1, h2, h3, h4, h5⟩ := hrd
 rw [cellsB_len, Nat.mul_one] at h1
 subst h1
 cases ao with
 | none =>
   obtain ⟨hn, hc⟩ := h4 rfl
   have : l = [] := List.length_eq_zero_iff.1 hn
   subst this
   exact Lib.run_convert_nil_bytes w src dst e cap hs he hd
 | some a =>
   have hh := run_convert_bytes_back (P := P) w src dst e a cap (l.map UInt8.ofNat) hs he hd (fun j hj => by
     rw [List.length_map] at hj
     obtain ⟨b, o, e1, _, e2⟩ := h5 j (by rw [cellsB_len]; exact hj)
     cases e1
     have : Addr.add ⟨b, o, none⟩ j = ⟨b, o + j, none⟩ := by
       unfold Addr.add
       by_cases h0 : j = 0
       · rw [if_pos h0, h0]; rfl
       · rw [if_neg h0]
     rw [this, e2]
     have hx := hg _ (List.getElem_mem hj)
     unfold cellsB
     rw [List.getElem?_map, List.getElem?_eq_getElem hj, List.getElem_map]
     simp [Nat.mod_eq_of_lt hx])
   rw [List.length_map] at hh
   exact hh
end Go
namespace Go.Proofs.Ythenepdbgeafkaa
open Go.Proofs.Wi Go.RowKit
end Go.Proofs.Ythenepdbgeafkaa
end

section
/-
 Streams that are alike, held against each other.
-/
namespace Go.Proofs.Ythenepdbgeafkaa
open Go.Proofs.Wi Go.RowKit
end Go.Proofs.Ythenepdbgeafkaa
end

section
/-
 Few: is a stream not great?
-/
namespace Go.Proofs.Ythenepdbgeafkaa
open Go.Proofs.Wi Go.RowKit
end Go.Proofs.Ythenepdbgeafkaa
end
