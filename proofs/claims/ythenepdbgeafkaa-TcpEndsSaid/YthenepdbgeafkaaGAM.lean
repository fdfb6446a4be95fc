import Derived.Test.YthenepdbgeafkaaGAJ
import Derived.Lib.BufferRead
set_option linter.unusedSimpArgs false
set_option linter.unusedVariables false
set_option maxRecDepth 100000
set_option maxHeartbeats 4000000
section
/-
 Bytes held against bytes: the reference's Bytes; streams held against each other: Same.
-/
namespace Go.Proofs.Wi
def goodB (l : List Nat) : Prop := ∀ x ∈ l, x < 256
end Go.Proofs.Wi
namespace Go
open Go.RowKit Go.Proofs.Wi
def bstr (l : List Nat) : ByteArray := ⟨(l.map UInt8.ofNat).toArray⟩
theorem ofNat_inj {a b : Nat} (ha : a < 256) (hb : b < 256) (h : UInt8.ofNat a = UInt8.ofNat b) : a = b := by
 have := congrArg UInt8.toNat h
 simp at this; omega
theorem loop_eq (s : ByteArray) (n i : Nat) (r : List UInt8) (h : s.size - i = n) : ByteArray.toList.loop s i r = r.reverse ++ s.data.toList.drop i := by
 induction n generalizing i r with
 | zero =>
   unfold ByteArray.toList.loop
   rw [if_neg (by omega)]
   rw [List.drop_eq_nil_of_le (by have : s.data.toList.length = s.size := by simp
                                  omega)]
   simp
 | succ n ih =>
   unfold ByteArray.toList.loop
   rw [if_pos (by omega), ih (i + 1) _ (by omega)]
   have hi : i < s.data.toList.length := by
     have : s.data.toList.length = s.size := by simp
     omega
   rw [List.drop_eq_getElem_cons hi]
   have : s.get! i = s.data.toList[i] := by
     have hi2 : i < s.data.size := by simpa using hi
     show s.data[i]! = _
     rw [getElem!_pos s.data i hi2]; simp
   rw [this]; simp
theorem toList_eq (s : ByteArray) : s.toList = s.data.toList := by
 unfold ByteArray.toList
 rw [loop_eq s _ 0 [] rfl]; simp
theorem map_inj {l m : List Nat} (hl : goodB l) (hm : goodB m) (h1 : l.map UInt8.ofNat = m.map UInt8.ofNat) : l = m := by
 induction l generalizing m with
 | nil => cases m with
   | nil => rfl
   | cons b m => simp at h1
 | cons a l ih => cases m with
   | nil => simp at h1
   | cons b m =>
     simp only [List.map_cons, List.cons.injEq] at h1
     have e := ofNat_inj (hl a (by simp)) (hm b (by simp)) h1.1
     have e2 := ih (fun x hx => hl x (by simp [hx])) (m := m) (fun x hx => hm x (by simp [hx])) h1.2
     rw [e, e2]
theorem bstr_beq {l m : List Nat} (hl : goodB l) (hm : goodB m) : ((bstr l).toList == (bstr m).toList) = decide (l = m) := by
 rw [toList_eq, toList_eq]
 by_cases h : l = m
 · subst h; simp
 · rw [decide_eq_false h, beq_eq_false_iff_ne]
   intro e
   refine h (map_inj hl hm ?_)
   simpa [bstr] using e
theorem run_str {P : Program} {w : World} {v : Value} {l : List Nat} (src dst e : TypeId) (hs : P.underlying src = some (.slice e)) (he : P.underlying e = some (.int .u8)) (hd : P.underlying dst = some .string) (hrd : Rd w 1 v (cellsB l)) (hg : goodB l) :
   (convert src dst v).run P w = .ok (.string (bstr l)) w := by
 obtain ⟨ao, n, cap, rfl, h1, h2, h3, h4, h5⟩ := hrd
 rw [cellsB_len, Nat.mul_one] at h1
 subst h1
 cases ao with
 | none =>
   obtain ⟨hn, hc⟩ := h4 rfl
   have : l = [] := List.length_eq_zero_iff.1 hn
   subst this
   exact Lib.run_convert_nil_bytes w src dst e cap hs he hd
 | some a =>
   have hh := run_convert_bytes_back (P := P) w src dst e a cap (l.map UInt8.ofNat) hs he hd (fun j hj => by
     rw [List.length_map] at hj
     obtain ⟨b, o, e1, _, e2⟩ := h5 j (by rw [cellsB_len]; exact hj)
     cases e1
     have : Addr.add ⟨b, o, none⟩ j = ⟨b, o + j, none⟩ := by
       unfold Addr.add
       by_cases h0 : j = 0
       · rw [if_pos h0, h0]; rfl
       · rw [if_neg h0]
     rw [this, e2]
     have hx := hg _ (List.getElem_mem hj)
     unfold cellsB
     rw [List.getElem?_map, List.getElem?_eq_getElem hj, List.getElem_map]
     simp [Nat.mod_eq_of_lt hx])
   rw [List.length_map] at hh
   exact hh
end Go
namespace Go.Proofs.Ythenepdbgeafkaa
open Go.Proofs.Wi Go.RowKit
theorem ret_b {a b : Bool} (h : a = b) : Ending.returned (.bool a) = .returned (.bool b) := by rw [h]
theorem Bytes_any (u v : Value) (l m : List Nat) (w : World) (hu : Rd w 1 u (cellsB l)) (hv : Rd w 1 v (cellsB m)) (hl : goodB l) (hm : goodB m) :
   Calls Try.prog 16 #[u, v] w fun e w' => e = .returned (.bool (decide (l = m))) ∧ w = w' := by
 have k1 := run_str (P := Try.prog) 23 9 5 Try.underlying23 Try.underlying5 Try.underlying9 hu hl
 have k2 := run_str (P := Try.prog) 23 9 5 Try.underlying23 Try.underlying5 Try.underlying9 hv hm
 have HB : Hid (((bstr l).toList == (bstr m).toList) = decide (l = m)) := Lib.hid (bstr_beq hl hm)
 generalize bstr l = s at *
 generalize bstr m = t at *
 clear hl hm hu hv
 go_enter Try.func16, Try.ntmps16
 go_wp2
 go_ret
 exact ⟨ret_b HB.out, rfl⟩
end Go.Proofs.Ythenepdbgeafkaa
end

section
/-
 Streams that are alike, held against each other.
-/
namespace Go.Proofs.Ythenepdbgeafkaa
open Go.Proofs.Wi Go.RowKit
end Go.Proofs.Ythenepdbgeafkaa
end

section
/-
 Few: is a stream not great?
-/
namespace Go.Proofs.Ythenepdbgeafkaa
open Go.Proofs.Wi Go.RowKit
end Go.Proofs.Ythenepdbgeafkaa
end
