/-
 A card behind two rings: how memory stands at first. No program in sight.
-/
import Derived.Test.YtjmibgomkgkhnaaGreatVnPT
import Derived.Test.YtjmibgomkgkhnaaGreatVnS
import Derived.Test.YtjmibgomkgkhnaaGreatVnB
set_option linter.unusedVariables false
set_option linter.unusedSimpArgs false
namespace Go.Proofs.Qu
open Go Go.RowKit Go.Proofs.Nm
def NM0 : List Nat := List.replicate 1900 0
theorem zeroQ_NM0 {b : Nat} (h : b + 112 ≤ 1900) : zeroQ NM0 b = NM0 := by
 unfold zeroQ NM0 putB
 rw [sizeN4, List.length_replicate, List.take_replicate, List.drop_replicate, List.replicate_append_replicate, List.replicate_append_replicate]
 congr 1
 omega
theorem getB_NM0 (p k : Nat) : ∃ m, getB NM0 p k = List.replicate m 0 := by
 unfold getB NM0
 rw [List.drop_replicate, List.take_replicate]
 exact ⟨_, rfl⟩
theorem fromTo_zero (m : Nat) : ∀ k, fromTo (List.replicate m 0) k = 0
 | 0 => rfl
 | k + 1 => by
   show fromTo (List.replicate m 0) k + (List.replicate m 0).getD k 0 * 256 ^ k = 0
   rw [fromTo_zero m k, List.getD_eq_getElem?_getD, List.getElem?_replicate]
   split <;> simp
theorem getN_NM0 (p k : Nat) : getN NM0 p k = 0 := by
 obtain ⟨m, h⟩ := getB_NM0 p k
 unfold getN
 rw [h]
 exact fromTo_zero _ _
theorem drop4 {j : Nat} (hj : j < 4) : ((List.range 4).drop j).getD 0 0 = j ∧ ((List.range 4).drop j).Nodup ∧ (∀ d ∈ (List.range 4).drop j, d < 4) ∧ 1 ≤ ((List.range 4).drop j).length := by
 rcases (show j = 0 ∨ j = 1 ∨ j = 2 ∨ j = 3 from by omega) with rfl | rfl | rfl | rfl <;> decide
theorem hand_inv : ∀ j, j ≤ 4 → (handM NM0 j).length = 1900 ∧ getN (handM NM0 j) (0 + (16 * 4 + 2)) 2 = j ∧ (∀ s, s < j → getN (handM NM0 j) (0 + (16 * 4 + (4 + 2 * s))) 2 = s) ∧ (∀ r, r < j → ChainAt 1900 (handM NM0 j) 0 4 r [(300 + 192 * r, 192, true)]) ∧ Frame NM0 (handM NM0 j) 0 76
 | 0, _ => ⟨List.length_replicate, getN_NM0 _ _, fun s h => absurd h (Nat.not_lt_zero s), fun r h => absurd h (Nat.not_lt_zero r), fun _ _ _ => rfl⟩
 | j + 1, h => by
   obtain ⟨h1, h2, h3, h4, h5⟩ := hand_inv j (by omega)
   obtain ⟨d1, d2, d3, d4⟩ := drop4 (j := j) (by omega)
   have hA : AddOk 1900 (handM NM0 j) 0 4 ((List.range 4).drop j) [(300 + 192 * j, 192, true)] := ⟨ok4, by rw [sizeN4]; omega, d2, d3, Nat.zero_lt_one, d4, fun p hp => by
     rw [List.mem_singleton.1 hp]; show 0 < 192 ∧ 300 + 192 * j + 192 ≤ 1900; omega, by decide⟩
   have hj4 : j % 4 = j := by omega
   have e0 : handM NM0 (j + 1) = addM (handM NM0 j) 0 4 j ((List.range 4).drop j) [(300 + 192 * j, 192, true)] := rfl
   rw [e0]
   refine ⟨by rw [addM_len hA]; exact h1, ?_, fun s hs => ?_, fun r hr => ?_, ?_⟩
   · rw [addM_idx hA]; omega
   · by_cases hsj : s = j
     · have := addM_at (av := j) hA
       rw [hj4, d1] at this
       rw [hsj]; exact this
     · rw [add_slot hA (by omega) (by omega)]; exact h3 s (by omega)
   · by_cases hrj : r = j
     · have := addM_chain (av := j) hA
       rw [d1] at this
       rw [hrj]; exact this
     · exact add_desc hA (by rw [d1]; omega) (h4 r (by omega))
   · exact h5.trans (add_frame (av := j) hA) (Nat.le_refl _) (Nat.le_refl _) (Nat.le_refl _) (Nat.le_refl _)
theorem new_rx (D : Nat → List Nat) : MRx (handM (zeroQ (zeroQ NM0 0) 120) 4) 0 0 0 D := by
 rw [zeroQ_NM0 (b := 0) (by decide), zeroQ_NM0 (b := 120) (by decide)]
 obtain ⟨h1, h2, h3, h4, h5⟩ := hand_inv 4 (Nat.le_refl _)
 exact ⟨h1, by rw [h2], by rw [h5.getN (by rw [backN4]; omega), getN_NM0], h3, h4, fun i _ h => by omega⟩
theorem new_tx (D : Nat → List Nat) : MTx (handM (zeroQ (zeroQ NM0 0) 120) 4) 0 0 0 D := by
 rw [zeroQ_NM0 (b := 0) (by decide), zeroQ_NM0 (b := 120) (by decide)]
 obtain ⟨h1, h2, h3, h4, h5⟩ := hand_inv 4 (Nat.le_refl _)
 exact ⟨h1, by rw [h5.getN (by omega), getN_NM0], by rw [h5.getN (by rw [backN4]; omega), getN_NM0], fun i _ h => by omega⟩
theorem RxC.q {chs : List Chn} (h : RxC chs 4) : RxQ chs 0 := h
end Go.Proofs.Qu
