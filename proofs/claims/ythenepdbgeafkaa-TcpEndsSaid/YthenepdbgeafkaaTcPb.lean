/-
 Two ends at work (layer 26): what the walks of the laws about both share.
-/
import Derived.Test.YthenepdbgeafkaaTcGa
import Derived.Test.YthenepdbgeafkaaGAM
import Derived.Test.YthenepdbgeafkaaGAB
import Derived.Test.YthenepdbgeafkaaTcOp
set_option linter.unusedVariables false
set_option linter.unusedSimpArgs false
namespace Go
theorem Mem.cast {w0 w : World} {L L' : LV} {R : LR} (h : Mem w0 w L R) (e : L = L') : Mem w0 w L' R := e ▸ h
end Go
namespace Go.Proofs.Tp
open Go Go.RowKit Go.Proofs.Wi
variable {R : LR}
theorem cellsB_appQ (a b : List Nat) : cellsB (a ++ b) = cellsB a ++ cellsB b := by unfold cellsB; exact List.map_append
theorem bdQ {a b : List Nat} (h : a.length + b.length ≤ 2000) : ((cellsB a).length + (cellsB b).length) / 1 ≤ maxLen ∧ ((cellsB a).length + (cellsB b).length) / 1 * 1 ≤ 140737488355328 := by simp only [cellsB, List.length_map]; unfold maxLen; omega
theorem slots6 {b b' : Nat} {r r' : Array Value} {s1 s2 s3 s4 : Bny.Slot} (h1 : s1.reads = []) (h2 : s2.reads = []) (h3 : s3.reads = []) (h4 : s4.reads = []) : ∀ s ∈ [Bny.Slot.row b r, Bny.Slot.row b' r', s1, s2, s3, s4], s.reads = [] := by
 intro s hs
 simp only [List.mem_cons, List.not_mem_nil, or_false] at hs
 rcases hs with rfl | rfl | rfl | rfl | rfl | rfl
 · rfl
 · rfl
 · exact h1
 · exact h2
 · exact h3
 · exact h4
theorem QQ.slice' {v : Value} {q : List G} {sl : Bny.Slot} (h : QQ R q v sl) : ∃ ao n k, v = .slice ao n k ∧ q.length = n := by
 obtain ⟨ao, k, e⟩ := h.slice
 exact ⟨ao, _, k, e, rfl⟩
theorem pT_chk (own peer : Nat) {lo po : Nat} (hl : 1 ≤ lo ∧ lo ≤ 65535) (hp : 1 ≤ po ∧ po ≤ 65535) : chkT (pT own peer lo po) = true := by
 refine chkT_iff.2 ⟨⟨by show 3 ≤ 9; decide, hl, hp, by show 0 ≤ 256; decide, by show 256 ≤ 65535; decide, (fun h => nomatch h), by show 0 ≤ 1099511627776; decide, ⟨by show 1 ≤ 4; decide, by show 4 ≤ 64; decide⟩, by show 0 ≤ 12; decide, Nat.zero_le _, chk_empty _ _ (Nat.zero_le _)⟩, ?_⟩
 refine (numbers_nm (by show 3 ≤ 3; decide)).2 ?_
 unfold Nm
 rw [own_noSe rfl]
 show 0 ≤ dif (Tp.u32 (own + 1)) (Tp.u32 (own + 1)) ∧ dif (Tp.u32 (own + 1)) (Tp.u32 (own + 1)) ≤ 0
 rw [dif_self]; decide
theorem InG.A {iss irs : Nat} {data : List Nat} {g : G} {sa : Option Addr} {sn sk : Nat} (hd : (1, Value.slice sa sn sk, cellsB g.data) ∈ R) (h : ∃ off len, 1 ≤ len ∧ len ≤ 64 ∧ off + len ≤ data.length ∧ g = gA iss irs data off len) : InG R g sa sn sk := by
 obtain ⟨off, len, h1, h2, h3, rfl⟩ := h
 refine ⟨hd, ?_, Tp.u32_lt _, Tp.u32_lt _⟩
 unfold chkG gA
 rw [decide_eq_true_eq]
 refine ⟨by show 1 ≤ 7; decide, by show 7 ≤ 65535; decide, by show 1 ≤ 80; decide, by show 80 ≤ 65535; decide, by show 24 ≤ 31; decide, by show 256 ≤ 65535; decide, ?_⟩
 show ((data.drop off).take len).length ≤ 64
 rw [List.length_take]; omega
theorem InG.B {iss irs p : Nat} {g : G} {sa : Option Addr} {sn sk : Nat} (hd : (1, Value.slice sa sn sk, cellsB g.data) ∈ R) (h : ∃ v w, v ≤ p ∧ 1 ≤ w ∧ w ≤ 256 ∧ g = gB iss irs v w) : InG R g sa sn sk := by
 obtain ⟨v, w, h1, h2, h3, rfl⟩ := h
 refine ⟨hd, ?_, Tp.u32_lt _, Tp.u32_lt _⟩
 unfold chkG gB
 rw [decide_eq_true_eq]
 exact ⟨by show 1 ≤ 80; decide, by show 80 ≤ 65535; decide, by show 1 ≤ 7; decide, by show 7 ≤ 65535; decide, by show 16 ≤ 31; decide, by show w ≤ 65535; omega, by show 0 ≤ 64; decide⟩
end Go.Proofs.Tp
namespace Go.Proofs.Ythenepdbgeafkaa
open Go.Proofs.Wi Go.RowKit Go.Proofs Go.Proofs.Tp
theorem Bytes_Q (u v : Value) (l : List Nat) (w : World) (hu : Rd w 1 u (cellsB l)) (hv : Rd w 1 v (cellsB l)) (hl : goodB l) : Calls Try.prog 16 #[u, v] w fun e w' => e = .returned (.bool true) ∧ w = w' := by
 have := Bytes_any u v l l w hu hv hl hl
 simpa using this
end Go.Proofs.Ythenepdbgeafkaa
