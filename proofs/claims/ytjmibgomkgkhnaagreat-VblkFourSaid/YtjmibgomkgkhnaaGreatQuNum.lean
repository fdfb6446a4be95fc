/-
 Numbers of two, four, eight bytes: num's Le.
-/
import Derived.Test.YtjmibgomkgkhnaaGreatFrom
import Derived.Test.YtjmibgomkgkhnaaGreatMem
import Derived.Test.YtjmibgomkgkhnaaGreatKS
set_option maxRecDepth 100000
set_option maxHeartbeats 1000000
set_option linter.unusedSimpArgs false
set_option linter.unusedVariables false
namespace Go.Proofs.Nm
open Go Go.RowKit
def putM (m n k : Nat) : Array Value := ((List.range m).map fun i => Value.int .u8 ((if i < k then n / 256 ^ i % 256 else 0 : Nat) : Int)).toArray
theorem size_putM (m n k : Nat) : (putM m n k).size = m := by simp [putM]
theorem get_putM (m n k i : Nat) : (putM m n k)[i]? = if i < m then some (Value.int .u8 ((if i < k then n / 256 ^ i % 256 else 0 : Nat) : Int)) else none := by
 unfold putM
 rw [List.getElem?_toArray, List.getElem?_map]
 by_cases h : i < m
 · rw [if_pos h, List.getElem?_range h]; rfl
 · rw [if_neg h, List.getElem?_eq_none (by simp; omega)]; rfl
theorem putM_zero (m n : Nat) : putM m n 0 = putM m 0 0 := by
 apply Array.ext_getElem?
 intro i
 rw [get_putM, get_putM]; simp
theorem set_putM {m n k : Nat} (h : k < m) : (putM m n k).setIfInBounds k (.int .u8 ((n / 256 ^ k % 256 : Nat) : Int)) = putM m n (k + 1) := by
 apply Array.ext_getElem?
 intro i
 rw [Array.getElem?_setIfInBounds, get_putM, get_putM, size_putM]
 by_cases h1 : k = i
 · subst h1; rw [if_pos rfl, if_pos h, if_pos h, if_pos (by omega)]
 · rw [if_neg h1]
   by_cases h2 : i < m
   · rw [if_pos h2, if_pos h2]
     by_cases h3 : i < k
     · rw [if_pos h3, if_pos (by omega)]
     · rw [if_neg h3, if_neg (by omega)]
   · rw [if_neg h2, if_neg h2]
theorem putM_full (m n : Nat) : (putM m n m).toList = cellsB (leB n m) := by
 apply List.ext_getElem?
 intro i
 rw [Array.getElem?_toList, get_putM]
 unfold cellsB leB
 by_cases h : i < m
 · rw [if_pos h, if_pos h]; simp [h]
 · rw [if_neg h, List.getElem?_eq_none (by simp; omega)]
theorem leB_good (n k : Nat) : goodB (leB n k) := fun x hx => by
 unfold leB at hx
 obtain ⟨i, _, rfl⟩ := List.mem_map.1 hx
 exact Nat.mod_lt _ (by decide)
end Go.Proofs.Nm
namespace Go.Proofs.YtjmibgomkgkhnaaGreat
open Go.Proofs.Nm Go.RowKit
theorem put_le2 (n : Nat) (hn : n < 18446744073709551616) (w : World) : Calls Tryz.prog 138 #[.int .u64 n, .int .i64 2, .func (.func 140) #[] #[]] w fun e w' => ∃ b, e = .returned (.slice (some ⟨b, 0, none⟩) 2 2) ∧ w'.rowD b = putM 2 n 2 ∧ w'.soft b = true ∧ w.heap.size ≤ b ∧ New w w' := by
 have HN := Lib.hid hn; clear hn
 have hv := Vars.nil w
 go_enter Tryz.func138, Tryz.ntmps138
 go_wp2_with ((with_reducible refine at_mkslice ?_); refine wl_mkb rfl (putM 2 0 0) 5 2 2 (fun _ => by kernel_rfl) ?_; intro b7 w2 hm2; replace hv := hv.madeAt hm2; clear hm2)
 rw [← putM_zero 2 n] at hv
 go_loopw [12] (fun i wr => ∃ k : Nat, k ≤ 2 ∧ i = .int .i64 k ∧ Vars w wr [(b7, putM 2 n k)]) (fun i _ => 2 - (intOf i).toNat)
 case atStart => exact ⟨0, by omega, rfl, hv⟩
 case round =>
   clear hv
   obtain ⟨k, hk, rfl, hv⟩ := hrel
   by_cases hk2 : k < 2
   · have hki : (k : Int) < 2 := by omega
     go_wp2_with fail
     refine Any.wp_region_walk [⟨[], none⟩, ⟨[], none⟩, ⟨[], none⟩, ⟨[], none⟩, ⟨[], none⟩, ⟨[], none⟩, ⟨[], none⟩, ⟨[], none⟩, ⟨[], none⟩, ⟨[], none⟩, ⟨[], some 1000⟩] [.val, .val, .val, .val, .val, .val, .val, .val, .val, .val, .put] (by kernel_rfl) (by kernel_rfl) hv ?_
     simp only [List.length_cons, List.length_nil, Nat.zero_add, Any.someVals]
     iterate 11 apply Exists.intro
     repeat (first
       | (refine Any.E_off rfl ?_; simp only [Act.put, sia, scs, scz])
       | (apply Any.E_val rfl rfl rfl rfl
          case h =>
            intro E' hA K hK
            first
              | (go_big_quiet_op; first
                | (refine hK _ ?_; rfl)
                | (refine ⟨_, fun _ _ => rfl, ?_⟩; refine hK _ ?_; rfl)
                | (apply Exists.intro; refine ⟨fun w1 hw1 => ?_, ?_⟩; · (first
                    | (go_at_call 140; exact Any.calls_VEq (Le1_any _ _) hw1))
                   refine hK _ ?_; rfl))
          case hD => rfl
          simp only [Act.put, sia, scs, scz])
       | (refine Any.E_lay rfl rfl rfl (fun _ => rfl) ?_; intro B; simp only [Act.put, sia, scs, scz])
       | (refine Any.E_putc (T := 5) rfl rfl rfl rfl rfl rfl infoU8 rfl (by rw [size_putM]; omega) ?_; simp only [Act.put, sia, scs, scz]))
     refine Any.E_nil ?_
     intro w9 hE9
     replace hv : Vars w w9 [(b7, (putM 2 n k).setIfInBounds k (.int .u8 ((n : Int) / 2 ^ (8 * k) % 256)))] := hE9.vars [1000] (by decide)
     clear hE9
     rw [byte_at, set_putM hk2] at hv
     go_wp2
     go_roundw
     case rel => exact ⟨k + 1, by omega, by go_num, hv⟩
     case measure => simp [intOf]; omega
     all_goals exact undef
   · have hki : ¬ (k : Int) < 2 := by omega
     obtain rfl : k = 2 := by omega
     go_wp2
     go_ret
     exact ⟨b7, rfl, hv.row (.head _), hv.sft (.head _), (hv.rows _ (.head _)).2.2, hv.below⟩
theorem Le_2 (n : Nat) (hn : n < 18446744073709551616) (w : World) : Calls Tryz.prog 121 #[.int .u64 n, .int .i64 2] w fun e w' => ∃ b, e = .returned (.slice (some ⟨b, 0, none⟩) 2 2) ∧ w'.rowD b = putM 2 n 2 ∧ w'.soft b = true ∧ w.heap.size ≤ b ∧ New w w' := by
 have kp : ∀ w, Calls Tryz.prog 138 #[.int .u64 n, .int .i64 2, .func (.func 140) #[] #[]] w fun e w' => ∃ b, e = .returned (.slice (some ⟨b, 0, none⟩) 2 2) ∧ w'.rowD b = putM 2 n 2 ∧ w'.soft b = true ∧ w.heap.size ≤ b ∧ New w w' := put_le2 n hn
 clear hn
 go_enter Tryz.func121, Tryz.ntmps121
 go_wp2_with (first
   | (go_at_call 139; go_in)
   | (go_at_call 138; refine (kp _).mono ?_; rintro e w1 ⟨b, rfl, h1, h2, h3, h4⟩; have H1 := Lib.hid h1; clear h1))
 go_ret
 exact ⟨_, rfl, H1.out, h2, h3, h4⟩
theorem put_le4 (n : Nat) (hn : n < 18446744073709551616) (w : World) : Calls Tryz.prog 138 #[.int .u64 n, .int .i64 4, .func (.func 140) #[] #[]] w fun e w' => ∃ b, e = .returned (.slice (some ⟨b, 0, none⟩) 4 4) ∧ w'.rowD b = putM 4 n 4 ∧ w'.soft b = true ∧ w.heap.size ≤ b ∧ New w w' := by
 have HN := Lib.hid hn; clear hn
 have hv := Vars.nil w
 go_enter Tryz.func138, Tryz.ntmps138
 go_wp2_with ((with_reducible refine at_mkslice ?_); refine wl_mkb rfl (putM 4 0 0) 5 4 4 (fun _ => by kernel_rfl) ?_; intro b7 w2 hm2; replace hv := hv.madeAt hm2; clear hm2)
 rw [← putM_zero 4 n] at hv
 go_loopw [12] (fun i wr => ∃ k : Nat, k ≤ 4 ∧ i = .int .i64 k ∧ Vars w wr [(b7, putM 4 n k)]) (fun i _ => 4 - (intOf i).toNat)
 case atStart => exact ⟨0, by omega, rfl, hv⟩
 case round =>
   clear hv
   obtain ⟨k, hk, rfl, hv⟩ := hrel
   by_cases hk2 : k < 4
   · have hki : (k : Int) < 4 := by omega
     go_wp2_with fail
     refine Any.wp_region_walk [⟨[], none⟩, ⟨[], none⟩, ⟨[], none⟩, ⟨[], none⟩, ⟨[], none⟩, ⟨[], none⟩, ⟨[], none⟩, ⟨[], none⟩, ⟨[], none⟩, ⟨[], none⟩, ⟨[], some 1000⟩] [.val, .val, .val, .val, .val, .val, .val, .val, .val, .val, .put] (by kernel_rfl) (by kernel_rfl) hv ?_
     simp only [List.length_cons, List.length_nil, Nat.zero_add, Any.someVals]
     iterate 11 apply Exists.intro
     repeat (first
       | (refine Any.E_off rfl ?_; simp only [Act.put, sia, scs, scz])
       | (apply Any.E_val rfl rfl rfl rfl
          case h =>
            intro E' hA K hK
            first
              | (go_big_quiet_op; first
                | (refine hK _ ?_; rfl)
                | (refine ⟨_, fun _ _ => rfl, ?_⟩; refine hK _ ?_; rfl)
                | (apply Exists.intro; refine ⟨fun w1 hw1 => ?_, ?_⟩; · (first
                    | (go_at_call 140; exact Any.calls_VEq (Le1_any _ _) hw1))
                   refine hK _ ?_; rfl))
          case hD => rfl
          simp only [Act.put, sia, scs, scz])
       | (refine Any.E_lay rfl rfl rfl (fun _ => rfl) ?_; intro B; simp only [Act.put, sia, scs, scz])
       | (refine Any.E_putc (T := 5) rfl rfl rfl rfl rfl rfl infoU8 rfl (by rw [size_putM]; omega) ?_; simp only [Act.put, sia, scs, scz]))
     refine Any.E_nil ?_
     intro w9 hE9
     replace hv : Vars w w9 [(b7, (putM 4 n k).setIfInBounds k (.int .u8 ((n : Int) / 2 ^ (8 * k) % 256)))] := hE9.vars [1000] (by decide)
     clear hE9
     rw [byte_at, set_putM hk2] at hv
     go_wp2
     go_roundw
     case rel => exact ⟨k + 1, by omega, by go_num, hv⟩
     case measure => simp [intOf]; omega
     all_goals exact undef
   · have hki : ¬ (k : Int) < 4 := by omega
     obtain rfl : k = 4 := by omega
     go_wp2
     go_ret
     exact ⟨b7, rfl, hv.row (.head _), hv.sft (.head _), (hv.rows _ (.head _)).2.2, hv.below⟩
theorem Le_4 (n : Nat) (hn : n < 18446744073709551616) (w : World) : Calls Tryz.prog 121 #[.int .u64 n, .int .i64 4] w fun e w' => ∃ b, e = .returned (.slice (some ⟨b, 0, none⟩) 4 4) ∧ w'.rowD b = putM 4 n 4 ∧ w'.soft b = true ∧ w.heap.size ≤ b ∧ New w w' := by
 have kp : ∀ w, Calls Tryz.prog 138 #[.int .u64 n, .int .i64 4, .func (.func 140) #[] #[]] w fun e w' => ∃ b, e = .returned (.slice (some ⟨b, 0, none⟩) 4 4) ∧ w'.rowD b = putM 4 n 4 ∧ w'.soft b = true ∧ w.heap.size ≤ b ∧ New w w' := put_le4 n hn
 clear hn
 go_enter Tryz.func121, Tryz.ntmps121
 go_wp2_with (first
   | (go_at_call 139; go_in)
   | (go_at_call 138; refine (kp _).mono ?_; rintro e w1 ⟨b, rfl, h1, h2, h3, h4⟩; have H1 := Lib.hid h1; clear h1))
 go_ret
 exact ⟨_, rfl, H1.out, h2, h3, h4⟩
theorem put_le8 (n : Nat) (hn : n < 18446744073709551616) (w : World) : Calls Tryz.prog 138 #[.int .u64 n, .int .i64 8, .func (.func 140) #[] #[]] w fun e w' => ∃ b, e = .returned (.slice (some ⟨b, 0, none⟩) 8 8) ∧ w'.rowD b = putM 8 n 8 ∧ w'.soft b = true ∧ w.heap.size ≤ b ∧ New w w' := by
 have HN := Lib.hid hn; clear hn
 have hv := Vars.nil w
 go_enter Tryz.func138, Tryz.ntmps138
 go_wp2_with ((with_reducible refine at_mkslice ?_); refine wl_mkb rfl (putM 8 0 0) 5 8 8 (fun _ => by kernel_rfl) ?_; intro b7 w2 hm2; replace hv := hv.madeAt hm2; clear hm2)
 rw [← putM_zero 8 n] at hv
 go_loopw [12] (fun i wr => ∃ k : Nat, k ≤ 8 ∧ i = .int .i64 k ∧ Vars w wr [(b7, putM 8 n k)]) (fun i _ => 8 - (intOf i).toNat)
 case atStart => exact ⟨0, by omega, rfl, hv⟩
 case round =>
   clear hv
   obtain ⟨k, hk, rfl, hv⟩ := hrel
   by_cases hk2 : k < 8
   · have hki : (k : Int) < 8 := by omega
     go_wp2_with fail
     refine Any.wp_region_walk [⟨[], none⟩, ⟨[], none⟩, ⟨[], none⟩, ⟨[], none⟩, ⟨[], none⟩, ⟨[], none⟩, ⟨[], none⟩, ⟨[], none⟩, ⟨[], none⟩, ⟨[], none⟩, ⟨[], some 1000⟩] [.val, .val, .val, .val, .val, .val, .val, .val, .val, .val, .put] (by kernel_rfl) (by kernel_rfl) hv ?_
     simp only [List.length_cons, List.length_nil, Nat.zero_add, Any.someVals]
     iterate 11 apply Exists.intro
     repeat (first
       | (refine Any.E_off rfl ?_; simp only [Act.put, sia, scs, scz])
       | (apply Any.E_val rfl rfl rfl rfl
          case h =>
            intro E' hA K hK
            first
              | (go_big_quiet_op; first
                | (refine hK _ ?_; rfl)
                | (refine ⟨_, fun _ _ => rfl, ?_⟩; refine hK _ ?_; rfl)
                | (apply Exists.intro; refine ⟨fun w1 hw1 => ?_, ?_⟩; · (first
                    | (go_at_call 140; exact Any.calls_VEq (Le1_any _ _) hw1))
                   refine hK _ ?_; rfl))
          case hD => rfl
          simp only [Act.put, sia, scs, scz])
       | (refine Any.E_lay rfl rfl rfl (fun _ => rfl) ?_; intro B; simp only [Act.put, sia, scs, scz])
       | (refine Any.E_putc (T := 5) rfl rfl rfl rfl rfl rfl infoU8 rfl (by rw [size_putM]; omega) ?_; simp only [Act.put, sia, scs, scz]))
     refine Any.E_nil ?_
     intro w9 hE9
     replace hv : Vars w w9 [(b7, (putM 8 n k).setIfInBounds k (.int .u8 ((n : Int) / 2 ^ (8 * k) % 256)))] := hE9.vars [1000] (by decide)
     clear hE9
     rw [byte_at, set_putM hk2] at hv
     go_wp2
     go_roundw
     case rel => exact ⟨k + 1, by omega, by go_num, hv⟩
     case measure => simp [intOf]; omega
     all_goals exact undef
   · have hki : ¬ (k : Int) < 8 := by omega
     obtain rfl : k = 8 := by omega
     go_wp2
     go_ret
     exact ⟨b7, rfl, hv.row (.head _), hv.sft (.head _), (hv.rows _ (.head _)).2.2, hv.below⟩
theorem Le_8 (n : Nat) (hn : n < 18446744073709551616) (w : World) : Calls Tryz.prog 121 #[.int .u64 n, .int .i64 8] w fun e w' => ∃ b, e = .returned (.slice (some ⟨b, 0, none⟩) 8 8) ∧ w'.rowD b = putM 8 n 8 ∧ w'.soft b = true ∧ w.heap.size ≤ b ∧ New w w' := by
 have kp : ∀ w, Calls Tryz.prog 138 #[.int .u64 n, .int .i64 8, .func (.func 140) #[] #[]] w fun e w' => ∃ b, e = .returned (.slice (some ⟨b, 0, none⟩) 8 8) ∧ w'.rowD b = putM 8 n 8 ∧ w'.soft b = true ∧ w.heap.size ≤ b ∧ New w w' := put_le8 n hn
 clear hn
 go_enter Tryz.func121, Tryz.ntmps121
 go_wp2_with (first
   | (go_at_call 139; go_in)
   | (go_at_call 138; refine (kp _).mono ?_; rintro e w1 ⟨b, rfl, h1, h2, h3, h4⟩; have H1 := Lib.hid h1; clear h1))
 go_ret
 exact ⟨_, rfl, H1.out, h2, h3, h4⟩
end Go.Proofs.YtjmibgomkgkhnaaGreat
