/-
 The walks of num's FromLe and the reference's.
-/
import Derived.Test.YtjmibgomkgkhnaaGreatNum
import Derived.Laws.Bits64b
set_option linter.unusedSimpArgs false
set_option linter.unusedVariables false
namespace Go.Proofs.Nm
open Go
def fromTo (l : List Nat) : Nat → Nat
 | 0 => 0
 | k + 1 => fromTo l k + l.getD k 0 * 256 ^ k
def fromB (l : List Nat) : Nat := fromTo l (min 8 l.length)
def goodB (l : List Nat) : Prop := ∀ x ∈ l, x < 256
theorem goodB_at {l : List Nat} (h : goodB l) (k : Nat) : l.getD k 0 < 256 := by
 by_cases hk : k < l.length
 · rw [List.getD, List.getElem?_eq_getElem hk]; exact h _ (List.getElem_mem hk)
 · rw [List.getD, List.getElem?_eq_none (by omega)]; decide
theorem fromTo_lt {l : List Nat} (h : goodB l) : ∀ k, fromTo l k < 256 ^ k
 | 0 => by simp [fromTo]
 | k + 1 => by
   have h1 := fromTo_lt h k
   have h2 := goodB_at h k
   unfold fromTo
   rw [Nat.pow_succ]
   have : l.getD k 0 * 256 ^ k ≤ 255 * 256 ^ k := Nat.mul_le_mul_right _ (by omega)
   omega
theorem pow256 {k : Nat} (h : k ≤ 8) : 256 ^ k ≤ 18446744073709551616 := Nat.pow_le_pow_right (n := 256) (by omega) h
theorem wrap_u64 {n : Nat} (h : n < 18446744073709551616) : IntKind.u64.wrap (n : Int) = (n : Int) := by
 have e : IntKind.u64.wrap (n : Int) = (n : Int) % 18446744073709551616 := by
   unfold IntKind.wrap
   have h1 : IntKind.u64.signed = false := rfl
   have h2 : (2 ^ IntKind.u64.bits : Int) = 18446744073709551616 := by decide
   simp only [h1, h2, Bool.false_and, Bool.false_eq_true, if_false]
 rw [e]; omega
theorem byte_lt {x k : Nat} (hx : x < 256) (hk : k < 8) : x * 256 ^ k < 18446744073709551616 := by
 have h1 : x * 256 ^ k < 256 * 256 ^ k := Nat.mul_lt_mul_of_pos_right hx (Nat.pow_pos (by omega))
 have h2 : 256 * 256 ^ k = 256 ^ (k + 1) := by rw [Nat.pow_succ]; omega
 have := pow256 (k := k + 1) (by omega)
 omega
theorem or_byte {x y k : Nat} (hx : x < 256) (hk : k < 8) (hy : y < 256 ^ k) : bits BinOp.or IntKind.u64 (y : Int) (IntKind.u64.wrap ((x : Int) * 2 ^ (8 * k))) = ((y + x * 256 ^ k : Nat) : Int) := by
 have hb := byte_lt hx hk
 have h2 := pow256 (k := k) (by omega)
 rw [pow8, ← Int.natCast_mul, wrap_u64 hb, bits_or_u64_nat _ _ (by omega) hb]
 congr 1
 have e : (256 : Nat) ^ k = 2 ^ (8 * k) := (Nat.pow_mul 2 8 k).symm
 rw [e] at hy ⊢
 have := Nat.two_pow_add_eq_or_of_lt hy x
 rw [Nat.or_comm, Nat.mul_comm x, ← this]; omega
end Go.Proofs.Nm
namespace Go.Proofs.YtjmibgomkgkhnaaGreat
open Go.Proofs.Nm Go.RowKit
set_option maxHeartbeats 1000000 in
theorem FromLe_any (v : Value) (l : List Nat) (w : World) (hrd : Rd w 1 v (cellsB l)) (hg : goodB l) : Calls Tryz.prog 81 #[v] w fun e w' => e = .returned (.int .u64 (fromB l)) ∧ w = w' := by
 obtain ⟨ao, n, cap, rfl, h1, h2, h3, h4, h5⟩ := id hrd
 rw [cellsB_len, Nat.mul_one] at h1
 have HL := Lib.hid h1; clear h1
 have hm : n ≤ 9223372036854775807 := by unfold maxLen at h3; omega
 have HC := Lib.hid h5; clear h5
 have HG := Lib.hid hg; clear hg
 clear h2 h3 h4 hrd
 obtain ⟨t, ht, ht2⟩ : ∃ t : Nat, Hid (fromB l = fromTo l t) ∧ ((n = t ∧ n ≤ 8) ∨ (8 = t ∧ 8 < n)) := ⟨min 8 n, Lib.hid (by unfold fromB; rw [HL.out]), by omega⟩
 rcases ht2 with ⟨rfl, h8⟩ | ⟨rfl, h8⟩
 all_goals
   have h8i := Int.ofNat_le.2 h8
   go_enter Tryz.func81, Tryz.ntmps81
   go_wp2
   go_loop [3, 8] (fun s i => ∃ k : Nat, k ≤ 8 ∧ k ≤ n ∧ i = .int .i64 k ∧ s = .int .u64 (fromTo l k)) (fun _ i => n - (intOf i).toNat)
   case atStart => exact ⟨0, by omega, by omega, rfl, rfl⟩
   case round =>
     obtain ⟨k, hk8, hkn, rfl, rfl⟩ := hrel
     by_cases hk2 : k < n ∧ k < 8
     · obtain ⟨a1, a2⟩ := hk2
       have b1 : (k : Int) < (n : Int) := by omega
       have b2 : (k : Int) < 8 := by omega
       obtain ⟨b, o, rfl, hb, hc⟩ := HC.out k (by rw [cellsB_len, HL.out]; exact a1)
       have hx : l.getD k 0 < 256 := goodB_at HG.out k
       have hc' : w.cell? ⟨b, o + k, none⟩ = some (.int .u8 (l.getD k 0 : Nat)) := by rw [hc]; unfold cellsB; rw [List.getElem?_map, List.getElem?_eq_getElem (by rw [HL.out]; exact a1)]; simp [List.getD, List.getElem?_eq_getElem (show k < l.length by rw [HL.out]; exact a1)]
       clear hc
       have hs : fromTo l (k + 1) = fromTo l k + l.getD k 0 * 256 ^ k := rfl
       have HS := Lib.hid hs; clear hs
       have hf := fromTo_lt HG.out k
       have HF := Lib.hid hf; clear hf
       generalize l.getD k 0 = x at *
       generalize fromTo l k = y at *
       go_wp2
       go_round
       case rel => exact ⟨k + 1, by omega, by omega, by go_num, by rw [HS.out, or_byte hx a2 HF.out]⟩
       case measure => simp [intOf]; omega
     · first
         | (have b1 : ¬ (k : Int) < (n : Int) := by omega
            go_wp2
            go_ret
            exact ⟨by rw [ht.out, show k = n from by omega]; rfl, rfl⟩)
         | (have b1 : ¬ (k : Int) < 8 := by omega
            go_wp2
            go_ret
            exact ⟨by rw [ht.out, show k = 8 from by omega]; rfl, rfl⟩)

end Go.Proofs.YtjmibgomkgkhnaaGreat
