/-
  Numbers that are sorted, in a row of the call's own.
-/
import Derived.Test.YtcelehhaggoijaaQuNew
import Derived.Ground.NamesProg
import Derived.Shelf.Sort.Plain
import Derived.Lib.SortBridge
import Derived.Test.YtcelehhaggoijaaSortM
set_option linter.unusedVariables false
set_option linter.unusedSimpArgs false
namespace Go.Proofs
open Go.Shelf
def QuSortL_ren : Go.Shelf.Ren := ⟨fun | 189 => 51 | 125 => 70 | 257 => 69 | 128 => 86 | 129 => 87 | 294 => 77 | 295 => 78 | 296 => 79 | 297 => 80 | 298 => 81 | 299 => 82 | 216 => 83 | 300 => 84 | 301 => 85 | 328 => 91 | 329 => 92 | 330 => 93 | 331 => 94 | 332 => 95 | 215 => 96 | 343 => 100 | n => n, fun | 28 => 26 | 3 => 3 | 46 => 131 | 0 => 0 | 51 => 94 | 53 => 93 | 4 => 4 | 183 => 139 | 182 => 138 | 131 => 144 | 5 => 5 | 9 => 9 | 218 => 151 | 222 => 155 | 228 => 159 | 229 => 160 | n => n, fun | n => n⟩
theorem QuSortL : Go.Proofs.Lays.n189 Try.prog QuSortL_ren := {
  mixed := by kernel_rfl
  f125 := Try.func70.trans (congrArg some (by kernel_rfl))
  f128 := Try.func86.trans (congrArg some (by kernel_rfl))
  f129 := Try.func87.trans (congrArg some (by kernel_rfl))
  f189 := Try.func51.trans (congrArg some (by kernel_rfl))
  f215 := Try.func96.trans (congrArg some (by kernel_rfl))
  f216 := Try.func83.trans (congrArg some (by kernel_rfl))
  f257 := Try.func69.trans (congrArg some (by kernel_rfl))
  f294 := Try.func77.trans (congrArg some (by kernel_rfl))
  f295 := Try.func78.trans (congrArg some (by kernel_rfl))
  f296 := Try.func79.trans (congrArg some (by kernel_rfl))
  f297 := Try.func80.trans (congrArg some (by kernel_rfl))
  f298 := Try.func81.trans (congrArg some (by kernel_rfl))
  f299 := Try.func82.trans (congrArg some (by kernel_rfl))
  f300 := Try.func84.trans (congrArg some (by kernel_rfl))
  f301 := Try.func85.trans (congrArg some (by kernel_rfl))
  f328 := Try.func91.trans (congrArg some (by kernel_rfl))
  f329 := Try.func92.trans (congrArg some (by kernel_rfl))
  f330 := Try.func93.trans (congrArg some (by kernel_rfl))
  f331 := Try.func94.trans (congrArg some (by kernel_rfl))
  f332 := Try.func95.trans (congrArg some (by kernel_rfl))
  f343 := Try.func100.trans (congrArg some (by kernel_rfl))
  t0 := Try.underlying0
  a0 := Try.isAgg0
  z0 := Try.sizeOf0
  v0 := Try.zeroValue0
  t3 := Try.underlying3
  a3 := Try.isAgg3
  z3 := Try.sizeOf3
  v3 := Try.zeroValue3
  t4 := Try.underlying4
  a4 := Try.isAgg4
  z4 := Try.sizeOf4
  v4 := Try.zeroValue4
  t5 := Try.underlying5
  a5 := Try.isAgg5
  z5 := Try.sizeOf5
  v5 := Try.zeroValue5
  t9 := Try.underlying9
  a9 := Try.isAgg9
  z9 := Try.sizeOf9
  v9 := Try.zeroValue9
  t28 := Try.underlying26
  a28 := Try.isAgg26
  z28 := Try.sizeOf26
  v28 := Try.zeroValue26
  t46 := Try.underlying131
  a46 := Try.isAgg131
  z46 := Try.sizeOf131
  v46 := Try.zeroValue131
  t51 := Try.underlying94
  a51 := Try.isAgg94
  z51 := Try.sizeOf94
  v51 := Try.zeroValue94
  t53 := Try.underlying93
  a53 := Try.isAgg93
  z53 := Try.sizeOf93
  v53 := Try.zeroValue93
  t131 := Try.underlying144
  a131 := Try.isAgg144
  z131 := Try.sizeOf144
  v131 := Try.zeroValue144
  t182 := Try.underlying138
  a182 := Try.isAgg138
  z182 := Try.sizeOf138
  v182 := Try.zeroValue138
  t183 := Try.underlying139
  a183 := Try.isAgg139
  z183 := Try.sizeOf139
  v183 := Try.zeroValue139
  t218 := Try.underlying151
  a218 := Try.isAgg151
  z218 := Try.sizeOf151
  v218 := Try.zeroValue151
  t222 := Try.underlying155
  a222 := Try.isAgg155
  z222 := Try.sizeOf155
  v222 := Try.zeroValue155
  t228 := Try.underlying159
  a228 := Try.isAgg159
  z228 := Try.sizeOf159
  v228 := Try.zeroValue159
  t229 := Try.underlying160
  a229 := Try.isAgg160
  z229 := Try.sizeOf160
  v229 := Try.zeroValue160 }
end Go.Proofs
namespace Go.Proofs.Qu
open Go Go.RowKit Go.Proofs.Nm
def srtN (l : List Nat) : List Nat := ((l.map Int.ofNat).mergeSort fun x y => decide (x ≤ y)).map Int.toNat
end Go.Proofs.Qu
namespace Go.Proofs.Ytcelehhaggoijaa
open Go.Proofs.Qu Go.Proofs.Nm Go.RowKit Go.Proofs Go.Shelf Go.Sort
theorem SortI_raw (blk cap : Nat) (zs : List Int) (w : World) (hH : Holds (Value.int .i64) w blk 0 zs.toArray) (hblk : blk < w.heap.size) (hsz : zs.length < 4611686018427387904) :
    Calls Try.prog 51 #[.slice (some ⟨blk, 0, none⟩) zs.length cap] w fun e w' =>
      e = .returned (.tuple #[]) ∧ ∃ q os, w' = grow ((w.drewN q).setCells blk 0 ((zs.mergeSort fun x y => decide (x ≤ y)).map (Value.int .i64))) os :=
  (Any.slices_Sort_int QuSortL blk 0 cap zs w hH hblk hsz).mono fun e w' ⟨he, q, os, hw⟩ => ⟨he, q, os, by rw [hw, Lib.sorted_world _ w blk 0 q _ _ os hH (by simp)]⟩
/-- A row of one's own is sorted. -/
theorem SortI_M {w0 w : World} {L : List (Nat × Array Value)} {R : List (Nat × Value × List Value)} {b n cap : Nat} {z : Array Value} {l : List Nat} (hv : Mem w0 w ((b, z) :: L) R) (hr : AppRow (.slice (some ⟨b, 0, none⟩) n cap) 1 (intsI l) (b, z)) (hl : l.length ≤ 100000) :
    Calls Try.prog 51 #[.slice (some ⟨b, 0, none⟩) n cap] w fun e w' => e = .returned (.tuple #[]) ∧ ∃ l' z', l'.Perm l ∧ l'.Pairwise (· ≤ ·) ∧ AppRow (.slice (some ⟨b, 0, none⟩) n cap) 1 (intsI l') (b, z') ∧ Mem w0 w' ((b, z') :: L) R := by
  obtain ⟨q1, q2, _⟩ := hv.vars.rows (b, z) (List.mem_cons_self ..)
  obtain ⟨n', cap', e, g1, g2, g3, g4, g5⟩ := hr
  cases e
  rw [Nat.mul_one] at g1 g4 g5
  rw [intsI_len] at g1
  simp only at q1 q2 g4 g5
  have hzl : (l.map Int.ofNat).length = n := by rw [List.length_map]; exact g1
  obtain ⟨tt, htt⟩ := soft_heap q2
  have hH : Holds (Value.int .i64) w b 0 (l.map Int.ofNat).toArray := fun j hj => by
    have hj' : j < l.length := by simpa using hj
    refine ⟨?_, frozen_of_row w b _ _ tt htt⟩
    rw [cell_rowD, q1, Nat.zero_add]
    have h1 : (intsI l)[j]? = some (.int .i64 (l[j] : Nat)) := by unfold intsI; rw [List.getElem?_map, List.getElem?_eq_getElem hj']; rfl
    rw [← g5, List.getElem?_take, if_pos (by omega), Array.getElem?_toList] at h1
    rw [h1]
    simp [hj']
  have h := SortI_raw b cap (l.map Int.ofNat) w hH (soft_lt q2) (by rw [List.length_map]; omega)
  rw [hzl] at h
  refine h.mono ?_
  rintro e w' ⟨rfl, q, os, rfl⟩
  obtain ⟨ys, hys⟩ : ∃ ys, (l.map Int.ofNat).mergeSort (fun x y => decide (x ≤ y)) = ys := ⟨_, rfl⟩
  have hp : ys.Perm (l.map Int.ofNat) := by rw [← hys]; exact List.mergeSort_perm _ _
  have hs : ys.Pairwise fun x y => x ≤ y := by
    have := List.pairwise_mergeSort (le := fun x y : Int => decide (x ≤ y)) (by intro a b c h1 h2; simp at *; omega) (by intro a b; simp; omega) (l.map Int.ofNat)
    rw [hys] at this
    simpa using this
  rw [hys]
  have hnn : ∀ x ∈ ys, 0 ≤ x := fun x hx => by
    obtain ⟨y, _, rfl⟩ := List.mem_map.1 (hp.mem_iff.1 hx)
    exact Int.natCast_nonneg y
  have hyl : ys.length = n := by rw [hp.length_eq]; exact hzl
  have hvals : ys.map (Value.int .i64) = intsI (ys.map Int.toNat) := by
    unfold intsI
    rw [List.map_map]
    apply List.map_congr_left
    intro x hx
    have := hnn x hx
    show Value.int .i64 x = Value.int .i64 ((x.toNat : Nat) : Int)
    rw [Int.toNat_of_nonneg this]
  have hd : (w.drewN q).soft b = true := q2
  have hrd : (w.drewN q).rowD b = z := q1
  rw [hvals, setCells_row _ (w.drewN q) b 0 hd (by rw [hrd, intsI_len, List.length_map, hyl]; omega), hrd]
  have hv1 : Mem w0 (w.drewN q) ((b, z) :: L) R := hv.new ⟨rfl, rfl, rfl, Nat.le_refl _, fun _ _ => rfl⟩
  have hv2 := hv1.set 0 rfl (wrote_setRow (c := splice z 0 (intsI (ys.map Int.toNat)).toArray) hd)
  simp only [List.set] at hv2
  have hv3 := hv2.new (new_grow _ os)
  have hil : (intsI (ys.map Int.toNat)).length = n := by rw [intsI_len, List.length_map, hyl]
  refine ⟨rfl, ys.map Int.toNat, _, ?_, ?_, ⟨n, cap, rfl, by rw [hil, Nat.mul_one], g2, g3, ?_, ?_⟩, hv3⟩
  · have := hp.map Int.toNat
    rw [List.map_map] at this
    have e : l.map (Int.toNat ∘ Int.ofNat) = l := by
      conv => rhs; rw [← List.map_id l]
      exact List.map_congr_left fun x _ => by simp
    rwa [e] at this
  · rw [List.pairwise_map]
    exact hs.imp fun h => Int.toNat_le_toNat h
  · show (splice z 0 _).size = _
    rw [size_splice _ _ _ (by rw [List.size_toArray, hil]; omega), Nat.mul_one]; exact g4
  · show (splice z 0 _).toList.take _ = _
    rw [splice_list (by rw [hil]; omega), List.take_zero, List.nil_append, Nat.mul_one, List.take_append_of_le_length (by rw [hil]; exact Nat.le_refl _), List.take_of_length_le (by rw [hil]; exact Nat.le_refl _)]
end Go.Proofs.Ytcelehhaggoijaa
