/-
 Numbers that are sorted, in a row of the call's own.
-/
import Derived.Test.YtjmibgomkgkhnaaGreatQuNx
import Derived.Ground.NamesProg
import Derived.Shelf.Sort.Plain
import Derived.Lib.SortBridge
import Derived.Test.YtjmibgomkgkhnaaGreatSortM
set_option linter.unusedVariables false
set_option linter.unusedSimpArgs false
namespace Go.Proofs
open Go.Shelf
def QuSortL_ren : Go.Shelf.Ren := ⟨fun | 189 => 85 | 125 => 116 | 257 => 115 | 128 => 136 | 129 => 137 | 294 => 127 | 295 => 128 | 296 => 129 | 297 => 130 | 298 => 131 | 299 => 132 | 216 => 133 | 300 => 134 | 301 => 135 | 328 => 143 | 329 => 144 | 330 => 145 | 331 => 146 | 332 => 147 | 215 => 148 | 343 => 149 | n => n, fun | 28 => 22 | 3 => 3 | 46 => 199 | 0 => 0 | 51 => 135 | 53 => 114 | 4 => 4 | 183 => 210 | 182 => 209 | 131 => 215 | 5 => 5 | 9 => 9 | 218 => 223 | 222 => 227 | 228 => 229 | 229 => 230 | n => n, fun | n => n⟩
theorem QuSortL : Go.Proofs.Lays.n189 Tryz.prog QuSortL_ren := {
 mixed := by kernel_rfl
 f125 := Tryz.func116.trans (congrArg some (by kernel_rfl))
 f128 := Tryz.func136.trans (congrArg some (by kernel_rfl))
 f129 := Tryz.func137.trans (congrArg some (by kernel_rfl))
 f189 := Tryz.func85.trans (congrArg some (by kernel_rfl))
 f215 := Tryz.func148.trans (congrArg some (by kernel_rfl))
 f216 := Tryz.func133.trans (congrArg some (by kernel_rfl))
 f257 := Tryz.func115.trans (congrArg some (by kernel_rfl))
 f294 := Tryz.func127.trans (congrArg some (by kernel_rfl))
 f295 := Tryz.func128.trans (congrArg some (by kernel_rfl))
 f296 := Tryz.func129.trans (congrArg some (by kernel_rfl))
 f297 := Tryz.func130.trans (congrArg some (by kernel_rfl))
 f298 := Tryz.func131.trans (congrArg some (by kernel_rfl))
 f299 := Tryz.func132.trans (congrArg some (by kernel_rfl))
 f300 := Tryz.func134.trans (congrArg some (by kernel_rfl))
 f301 := Tryz.func135.trans (congrArg some (by kernel_rfl))
 f328 := Tryz.func143.trans (congrArg some (by kernel_rfl))
 f329 := Tryz.func144.trans (congrArg some (by kernel_rfl))
 f330 := Tryz.func145.trans (congrArg some (by kernel_rfl))
 f331 := Tryz.func146.trans (congrArg some (by kernel_rfl))
 f332 := Tryz.func147.trans (congrArg some (by kernel_rfl))
 f343 := Tryz.func149.trans (congrArg some (by kernel_rfl))
 t0 := Tryz.underlying0
 a0 := Tryz.isAgg0
 z0 := Tryz.sizeOf0
 v0 := Tryz.zeroValue0
 t3 := Tryz.underlying3
 a3 := Tryz.isAgg3
 z3 := Tryz.sizeOf3
 v3 := Tryz.zeroValue3
 t4 := Tryz.underlying4
 a4 := Tryz.isAgg4
 z4 := Tryz.sizeOf4
 v4 := Tryz.zeroValue4
 t5 := Tryz.underlying5
 a5 := Tryz.isAgg5
 z5 := Tryz.sizeOf5
 v5 := Tryz.zeroValue5
 t9 := Tryz.underlying9
 a9 := Tryz.isAgg9
 z9 := Tryz.sizeOf9
 v9 := Tryz.zeroValue9
 t28 := Tryz.underlying22
 a28 := Tryz.isAgg22
 z28 := Tryz.sizeOf22
 v28 := Tryz.zeroValue22
 t46 := Tryz.underlying199
 a46 := Tryz.isAgg199
 z46 := Tryz.sizeOf199
 v46 := Tryz.zeroValue199
 t51 := Tryz.underlying135
 a51 := Tryz.isAgg135
 z51 := Tryz.sizeOf135
 v51 := Tryz.zeroValue135
 t53 := Tryz.underlying114
 a53 := Tryz.isAgg114
 z53 := Tryz.sizeOf114
 v53 := Tryz.zeroValue114
 t131 := Tryz.underlying215
 a131 := Tryz.isAgg215
 z131 := Tryz.sizeOf215
 v131 := Tryz.zeroValue215
 t182 := Tryz.underlying209
 a182 := Tryz.isAgg209
 z182 := Tryz.sizeOf209
 v182 := Tryz.zeroValue209
 t183 := Tryz.underlying210
 a183 := Tryz.isAgg210
 z183 := Tryz.sizeOf210
 v183 := Tryz.zeroValue210
 t218 := Tryz.underlying223
 a218 := Tryz.isAgg223
 z218 := Tryz.sizeOf223
 v218 := Tryz.zeroValue223
 t222 := Tryz.underlying227
 a222 := Tryz.isAgg227
 z222 := Tryz.sizeOf227
 v222 := Tryz.zeroValue227
 t228 := Tryz.underlying229
 a228 := Tryz.isAgg229
 z228 := Tryz.sizeOf229
 v228 := Tryz.zeroValue229
 t229 := Tryz.underlying230
 a229 := Tryz.isAgg230
 z229 := Tryz.sizeOf230
 v229 := Tryz.zeroValue230 }
end Go.Proofs
namespace Go.Proofs.Qu
open Go Go.RowKit Go.Proofs.Nm
end Go.Proofs.Qu
namespace Go.Proofs.YtjmibgomkgkhnaaGreat
open Go.Proofs.Qu Go.Proofs.Nm Go.RowKit Go.Proofs Go.Shelf Go.Sort
theorem SortI_raw (blk cap : Nat) (zs : List Int) (w : World) (hH : Holds (Value.int .i64) w blk 0 zs.toArray) (hblk : blk < w.heap.size) (hsz : zs.length < 4611686018427387904) :
   Calls Tryz.prog 85 #[.slice (some ⟨blk, 0, none⟩) zs.length cap] w fun e w' =>
     e = .returned (.tuple #[]) ∧ ∃ q os, w' = grow ((w.drewN q).setCells blk 0 ((zs.mergeSort fun x y => decide (x ≤ y)).map (Value.int .i64))) os :=
 (Any.slices_Sort_int QuSortL blk 0 cap zs w hH hblk hsz).mono fun e w' ⟨he, q, os, hw⟩ => ⟨he, q, os, by rw [hw, Lib.sorted_world _ w blk 0 q _ _ os hH (by simp)]⟩
theorem SortI_M {w0 w : World} {L : List (Nat × Array Value)} {R : List (Nat × Value × List Value)} {b n cap : Nat} {z : Array Value} {l : List Nat} (hv : Mem w0 w ((b, z) :: L) R) (hr : AppRow (.slice (some ⟨b, 0, none⟩) n cap) 1 (intsI l) (b, z)) (hl : l.length ≤ 100000) :
   Calls Tryz.prog 85 #[.slice (some ⟨b, 0, none⟩) n cap] w fun e w' => e = .returned (.tuple #[]) ∧ ∃ l' z', l'.Perm l ∧ l'.Pairwise (· ≤ ·) ∧ AppRow (.slice (some ⟨b, 0, none⟩) n cap) 1 (intsI l') (b, z') ∧ Mem w0 w' ((b, z') :: L) R := by
 obtain ⟨q1, q2, _⟩ := hv.vars.rows (b, z) (List.mem_cons_self ..)
 obtain ⟨n', cap', e, g1, g2, g3, g4, g5⟩ := hr
 cases e
 rw [Nat.mul_one] at g1 g4 g5
 rw [intsI_len] at g1
 simp only at q1 q2 g4 g5
 have hzl : (l.map Int.ofNat).length = n := by rw [List.length_map]; exact g1
 obtain ⟨tt, htt⟩ := soft_heap q2
 have hH : Holds (Value.int .i64) w b 0 (l.map Int.ofNat).toArray := fun j hj => by
   have hj' : j < l.length := by simpa using hj
   refine ⟨?_, frozen_of_row w b _ _ tt htt⟩
   rw [cell_rowD, q1, Nat.zero_add]
   have h1 : (intsI l)[j]? = some (.int .i64 (l[j] : Nat)) := by unfold intsI; rw [List.getElem?_map, List.getElem?_eq_getElem hj']; rfl
   rw [← g5, List.getElem?_take, if_pos (by omega), Array.getElem?_toList] at h1
   rw [h1]
   simp [hj']
 have h := SortI_raw b cap (l.map Int.ofNat) w hH (soft_lt q2) (by rw [List.length_map]; omega)
 rw [hzl] at h
 refine h.mono ?_
 rintro e w' ⟨rfl, q, os, rfl⟩
 obtain ⟨ys, hys⟩ : ∃ ys, (l.map Int.ofNat).mergeSort (fun x y => decide (x ≤ y)) = ys := ⟨_, rfl⟩
 have hp : ys.Perm (l.map Int.ofNat) := by rw [← hys]; exact List.mergeSort_perm _ _
 have hs : ys.Pairwise fun x y => x ≤ y := by
   have := List.pairwise_mergeSort (le := fun x y : Int => decide (x ≤ y)) (by intro a b c h1 h2; simp at *; omega) (by intro a b; simp; omega) (l.map Int.ofNat)
   rw [hys] at this
   simpa using this
 rw [hys]
 have hnn : ∀ x ∈ ys, 0 ≤ x := fun x hx => by
   obtain ⟨y, _, rfl⟩ := List.mem_map.1 (hp.mem_iff.1 hx)
   exact Int.natCast_nonneg y
 have hyl : ys.length = n := by rw [hp.length_eq]; exact hzl
 have hvals : ys.map (Value.int .i64) = intsI (ys.map Int.toNat) := by
   unfold intsI
   rw [List.map_map]
   apply List.map_congr_left
   intro x hx
   have := hnn x hx
   show Value.int .i64 x = Value.int .i64 ((x.toNat : Nat) : Int)
   rw [Int.toNat_of_nonneg this]
 have hd : (w.drewN q).soft b = true := q2
 have hrd : (w.drewN q).rowD b = z := q1
 rw [hvals, setCells_row _ (w.drewN q) b 0 hd (by rw [hrd, intsI_len, List.length_map, hyl]; omega), hrd]
 have hv1 : Mem w0 (w.drewN q) ((b, z) :: L) R := hv.new ⟨rfl, rfl, rfl, Nat.le_refl _, fun _ _ => rfl⟩
 have hv2 := hv1.set 0 rfl (wrote_setRow (c := splice z 0 (intsI (ys.map Int.toNat)).toArray) hd)
 simp only [List.set] at hv2
 have hv3 := hv2.new (new_grow _ os)
 have hil : (intsI (ys.map Int.toNat)).length = n := by rw [intsI_len, List.length_map, hyl]
 refine ⟨rfl, ys.map Int.toNat, _, ?_, ?_, ⟨n, cap, rfl, by rw [hil, Nat.mul_one], g2, g3, ?_, ?_⟩, hv3⟩
 · have := hp.map Int.toNat
   rw [List.map_map] at this
   have e : l.map (Int.toNat ∘ Int.ofNat) = l := by
     conv => rhs; rw [← List.map_id l]
     exact List.map_congr_left fun x _ => by simp
   rwa [e] at this
 · rw [List.pairwise_map]
   exact hs.imp fun h => Int.toNat_le_toNat h
 · show (splice z 0 _).size = _
   rw [size_splice _ _ _ (by rw [List.size_toArray, hil]; omega), Nat.mul_one]; exact g4
 · show (splice z 0 _).toList.take _ = _
   rw [splice_list (by rw [hil]; omega), List.take_zero, List.nil_append, Nat.mul_one, List.take_append_of_le_length (by rw [hil]; exact Nat.le_refl _), List.take_of_length_le (by rw [hil]; exact Nat.le_refl _)]
end Go.Proofs.YtjmibgomkgkhnaaGreat
