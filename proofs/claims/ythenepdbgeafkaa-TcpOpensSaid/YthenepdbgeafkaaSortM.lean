/-
 A slice of the call's own that is sorted, beside the call's variables. No program in sight.
-/
import Derived.Test.YthenepdbgeafkaaGAI
import Derived.Shelf.GgSortFunc.InsertionK
set_option linter.unusedVariables false
set_option linter.unusedSimpArgs false
namespace Go
open Go.RowKit Go.Sort Go.Proofs Go.Shelf Go.Lib
theorem flatK_toList {α : Type} [Inhabited α] {enc : α → List Value} {k : Nat} (h : ∀ x, (enc x).length = k) (hk : 0 < k) (d : Array α) : (flatK enc k d).toList = d.toList.flatMap enc := by
 have hlen : ∀ l : List α, (l.flatMap enc).length = l.length * k := fun l => by
   induction l with
   | nil => simp
   | cons x r ih => rw [List.flatMap_cons, List.length_append, h, ih, List.length_cons, Nat.add_mul]; omega
 have hget : ∀ (l : List α) (i j : Nat) (hi : i < l.length) (hj : j < k), (l.flatMap enc)[i * k + j]? = (enc l[i])[j]? := fun l => by
   induction l with
   | nil => intro i j hi; simp at hi
   | cons x r ih =>
     intro i j hi hj
     rw [List.flatMap_cons]
     cases i with
     | zero => rw [Nat.zero_mul, Nat.zero_add, List.getElem?_append_left (by rw [h]; exact hj)]; rfl
     | succ i =>
       have e : (i + 1) * k + j = (enc x).length + (i * k + j) := by rw [h, Nat.add_mul]; omega
       rw [e, List.getElem?_append_right (by omega), Nat.add_sub_cancel_left, ih i j (by simpa using hi) hj]; rfl
 apply List.ext_getElem?
 intro t
 by_cases ht : t < d.size * k
 · have hi : t / k < d.size := Nat.div_lt_of_lt_mul (by rw [Nat.mul_comm]; exact ht)
   have hj : t % k < k := Nat.mod_lt _ hk
   have e : t = t / k * k + t % k := by rw [Nat.mul_comm]; exact (Nat.div_add_mod t k).symm
   have h1 : (flatK enc k d).toList[t]? = some ((flatK enc k d)[t]!) := by
     rw [Array.getElem?_toList, getElem!_pos _ t (by simpa using ht), Array.getElem?_eq_getElem (by simpa using ht)]
   rw [h1, get_flatK enc k d t ht]
   have h2 := hget d.toList (t / k) (t % k) (by simpa using hi) hj
   rw [← e] at h2
   rw [h2]
   have hle : t % k < (enc d[t / k]!).length := by rw [h]; exact hj
   have h3 : d.toList[t / k]'(by simpa using hi) = d[t / k]! := by
     rw [getElem!_pos d _ hi]; simp
   rw [h3, List.getElem?_eq_getElem hle, getElem!_pos (enc d[t / k]!) (t % k) hle]
 · rw [List.getElem?_eq_none (by rw [Array.length_toList, size_flatK]; exact Nat.le_of_not_lt ht), List.getElem?_eq_none (by rw [hlen, Array.length_toList]; exact Nat.le_of_not_lt ht)]
theorem new_ahead (w : World) (m : Nat) : New w (Sort.ahead w m) := ⟨rfl, rfl, rfl, Nat.le_refl _, fun _ _ => rfl⟩
theorem new_grow (w : World) (os : Array Obj) : New w (grow w os) := ⟨rfl, rfl, rfl, by simp [grow], fun k hk => by
 unfold grow
 exact Array.getElem?_append_left hk⟩
theorem wrote_putRow {w : World} {b : Nat} {F : Array Value} (hs : w.soft b = true) : Wrote w (putRow id w b 0 F) b (putCells id 0 F (w.rowD b)) := by
 obtain ⟨t, ht⟩ := soft_heap hs
 have hlt := soft_lt hs
 have hb : (putRow id w b 0 F).heap[b]? = some (.cells (putCells id 0 F (w.rowD b)) t (0, 0)) := by
   unfold putRow mapBlock
   simp only [Array.getElem?_modify, ht, Option.map_some, onCells, if_true]
 refine ⟨rowD_of hb, soft_of hb, fun k hk => ?_, ?_, rfl, rfl, rfl⟩
 · unfold putRow mapBlock
   simp only [Array.getElem?_modify]
   rw [if_neg (fun e => hk e.symm)]
 · unfold putRow mapBlock
   simp
theorem putCells_take {F z : Array Value} (h : F.size ≤ z.size) : (putCells id 0 F z).size = z.size ∧ (putCells id 0 F z).toList.take F.size = F.toList := by
 refine ⟨by simp [putCells], ?_⟩
 apply List.ext_getElem?
 intro i
 rw [List.getElem?_take]
 by_cases hi : i < F.size
 · rw [if_pos hi, Array.getElem?_toList, Array.getElem?_toList]
   unfold putCells
   rw [Array.getElem?_mapIdx, Array.getElem?_eq_getElem (show i < z.size by omega), Option.map_some, if_pos ⟨Nat.zero_le _, by omega⟩, Nat.sub_zero, getElem!_pos F i hi, Array.getElem?_eq_getElem hi]; rfl
 · rw [if_neg hi, List.getElem?_eq_none (by simpa using Nat.le_of_not_lt hi)]
theorem holds_row {α : Type} [Inhabited α] {enc : α → List Value} {k : Nat} (h : ∀ x, (enc x).length = k) (hk : 0 < k) {w w0 : World} {L : LV} {R : LR} {b n cap : Nat} {z : Array Value} {d : Array α} (hv : Mem w0 w ((b, z) :: L) R)
   (hr : AppRow (.slice (some ⟨b, 0, none⟩) n cap) k (d.toList.flatMap enc) (b, z)) : HoldsK enc k w b 0 d := by
 obtain ⟨q1, q2, _⟩ := hv.vars.rows (b, z) (List.mem_cons_self ..)
 obtain ⟨n', cap', e, g1, _, _, _, g5⟩ := hr
 cases e
 simp only at q1 q2 g5
 obtain ⟨t, ht⟩ := soft_heap q2
 intro j hj
 rw [size_flatK] at hj
 have hF := flatK_toList h hk d
 refine ⟨?_, frozen_of_row w b _ _ t ht⟩
 rw [cell_rowD, q1, Nat.zero_add]
 have h1 : (flatK enc k d).toList[j]? = z.toList[j]? := by
   rw [hF, ← g5, List.getElem?_take, if_pos]
   rw [← g1, ← hF]
   simpa using hj
 rw [Array.getElem?_toList, Array.getElem?_toList, Array.getElem?_eq_getElem (by simpa using hj)] at h1
 rw [← h1, getElem!_pos _ j (by simpa using hj)]; rfl
theorem Mem.sorted {α : Type} [Inhabited α] {enc : α → List Value} {k : Nat} (h : ∀ x, (enc x).length = k) (hk : 0 < k) {w w0 : World} {L : LV} {R : LR} {b n cap : Nat} {z : Array Value} {d d' : Array α} (hv : Mem w0 w ((b, z) :: L) R)
   (hr : AppRow (.slice (some ⟨b, 0, none⟩) n cap) k (d.toList.flatMap enc) (b, z)) (hd : d'.size = d.size) (m : Nat) (os : Array Obj) :
   ∃ z', Mem w0 (sortWorldK enc k w b 0 m d' os) ((b, z') :: L) R ∧ AppRow (.slice (some ⟨b, 0, none⟩) n cap) k (d'.toList.flatMap enc) (b, z') := by
 have h1 := hv.new (new_ahead w m)
 obtain ⟨q1, q2, _⟩ := h1.vars.rows (b, z) (List.mem_cons_self ..)
 simp only at q1 q2
 have h2 := h1.set 0 rfl (wrote_putRow (F := flatK enc k d') q2)
 have h3 := h2.new (new_grow _ os)
 obtain ⟨n', cap', e, g1, g2, g3, g4, g5⟩ := hr
 cases e
 simp only at g4 g5
 have hl : (d.toList.flatMap enc).length = d.size * k := by rw [← flatK_toList h hk d]; simp
 have hn : n * k = (flatK enc k d').size := by rw [size_flatK, hd, ← hl, g1]
 have hle : (flatK enc k d').size ≤ z.size := by rw [← hn, g4]; exact Nat.mul_le_mul_right k g2
 have hp := putCells_take hle
 refine ⟨putCells id 0 (flatK enc k d') z, ?_, n, cap, rfl, ?_, g2, g3, by simp only; rw [hp.1, g4], ?_⟩
 · rw [q1] at h3
   exact h3
 · rw [← flatK_toList h hk d', Array.length_toList, hn]
 · simp only
   rw [hn, hp.2, flatK_toList h hk d']
end Go
