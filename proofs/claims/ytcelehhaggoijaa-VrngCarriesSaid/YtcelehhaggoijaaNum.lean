/-
  The walks of num's functions on bytes.
-/
import Derived.Test.YtcelehhaggoijaaNumBase
import Derived.Test.YtcelehhaggoijaaAnyR
import Derived.Test.YtcelehhaggoijaaOwn
import Derived.Test.YtcelehhaggoijaaProg
set_option linter.unusedSimpArgs false
set_option linter.unusedVariables false
namespace Go.Proofs.Ytcelehhaggoijaa
open Go.Proofs.Nm Go.RowKit
theorem infoU8 : (Try.prog.info? 5).map (·.size) = some 1 := by kernel_rfl
theorem Le1_any (i : Nat) (w : World) : Calls Try.prog 99 #[.int .i64 i] w fun e w' => e = .returned (.int .i64 i) ∧ w = w' := by
  go_enter Try.func99, Try.ntmps99
  go_wp2
  go_ret
  exact ⟨rfl, rfl⟩
set_option maxRecDepth 100000 in
set_option maxHeartbeats 1000000 in
theorem put_le (n : Nat) (hn : n < 18446744073709551616) (w : World) : Calls Try.prog 97 #[.int .u64 n, .int .i64 8, .func (.func 99) #[] #[]] w fun e w' => ∃ b, e = .returned (.slice (some ⟨b, 0, none⟩) 8 8) ∧ w'.rowD b = putRow n 8 ∧ w'.soft b = true ∧ w.heap.size ≤ b ∧ New w w' := by
  have HN := Lib.hid hn; clear hn
  have hv := Vars.nil w
  go_enter Try.func97, Try.ntmps97
  go_wp2_with ((with_reducible refine at_mkslice ?_); refine wl_mkb rfl (putRow 0 0) 5 8 8 (fun _ => by kernel_rfl) ?_; intro b7 w2 hm2; replace hv := hv.madeAt hm2; clear hm2)
  rw [← putRow_zero n] at hv
  go_loopw [12] (fun i wr => ∃ k : Nat, k ≤ 8 ∧ i = .int .i64 k ∧ Vars w wr [(b7, putRow n k)]) (fun i _ => 8 - (intOf i).toNat)
  case atStart => exact ⟨0, by omega, rfl, hv⟩
  case round =>
    clear hv
    obtain ⟨k, hk, rfl, hv⟩ := hrel
    by_cases hk2 : k < 8
    · have hki : (k : Int) < 8 := by omega
      go_wp2_with fail
      refine Any.wp_region_walk [⟨[], none⟩, ⟨[], none⟩, ⟨[], none⟩, ⟨[], none⟩, ⟨[], none⟩, ⟨[], none⟩, ⟨[], none⟩, ⟨[], none⟩, ⟨[], none⟩, ⟨[], none⟩, ⟨[], some 1000⟩] [.val, .val, .val, .val, .val, .val, .val, .val, .val, .val, .put] (by kernel_rfl) (by kernel_rfl) hv ?_
      simp only [List.length_cons, List.length_nil, Nat.zero_add, Any.someVals]
      iterate 11 apply Exists.intro
      repeat (first
        | (refine Any.E_off rfl ?_; simp only [Act.put, List.setIfInBounds_toArray, List.set_cons_succ, List.set_cons_zero])
        | (apply Any.E_val rfl rfl rfl rfl
           case h =>
             intro E' hA K hK
             first
               | (go_big_quiet_op; first
                 | (refine hK _ ?_; rfl)
                 | (refine ⟨_, fun _ _ => rfl, ?_⟩; refine hK _ ?_; rfl)
                 | (apply Exists.intro; refine ⟨fun w1 hw1 => ?_, ?_⟩; · (first
                     | (go_at_call 99; exact Any.calls_VEq (Le1_any _ _) hw1))
                    refine hK _ ?_; rfl))
           case hD => rfl
           simp only [Act.put, List.setIfInBounds_toArray, List.set_cons_succ, List.set_cons_zero])
        | (refine Any.E_lay rfl rfl rfl (fun _ => rfl) ?_; intro B; simp only [Act.put, List.setIfInBounds_toArray, List.set_cons_succ, List.set_cons_zero])
        | (refine Any.E_putc (T := 5) rfl rfl rfl rfl rfl rfl infoU8 rfl (by rw [size_putRow]; omega) ?_; simp only [Act.put, List.setIfInBounds_toArray, List.set_cons_succ, List.set_cons_zero]))
      refine Any.E_nil ?_
      intro w9 hE9
      replace hv : Vars w w9 [(b7, (putRow n k).setIfInBounds k (.int .u8 ((n : Int) / 2 ^ (8 * k) % 256)))] := hE9.vars [1000] (by decide)
      clear hE9
      rw [byte_at, set_putRow hk2] at hv
      go_wp2
      go_roundw
      case rel => exact ⟨k + 1, by omega, by go_num, hv⟩
      case measure => simp [intOf]; omega
      all_goals exact undef
    · have hki : ¬ (k : Int) < 8 := by omega
      obtain rfl : k = 8 := by omega
      go_wp2
      go_ret
      exact ⟨b7, rfl, hv.row (.head _), hv.sft (.head _), (hv.rows _ (.head _)).2.2, hv.below⟩

theorem infoB : (Try.prog.info? 5).map (fun i => (i.zero, i.size, i.bytes)) = some (some (.int .u8 0), 1, 1) := by kernel_rfl
theorem Le_any (n : Nat) (hn : n < 18446744073709551616) (w : World) : Calls Try.prog 89 #[.int .u64 n, .int .i64 8] w fun e w' => ∃ b, e = .returned (.slice (some ⟨b, 0, none⟩) 8 8) ∧ w'.rowD b = putRow n 8 ∧ w'.soft b = true ∧ w.heap.size ≤ b ∧ New w w' := by
  have kp : ∀ w, Calls Try.prog 97 #[.int .u64 n, .int .i64 8, .func (.func 99) #[] #[]] w fun e w' => ∃ b, e = .returned (.slice (some ⟨b, 0, none⟩) 8 8) ∧ w'.rowD b = putRow n 8 ∧ w'.soft b = true ∧ w.heap.size ≤ b ∧ New w w' := put_le n hn
  clear hn
  go_enter Try.func89, Try.ntmps89
  go_wp2_with (first
    | (go_at_call 98; go_in)
    | (go_at_call 97; refine (kp _).mono ?_; rintro e w1 ⟨b, rfl, h1, h2, h3, h4⟩; have H1 := Lib.hid h1; clear h1))
  go_ret
  exact ⟨_, rfl, H1.out, h2, h3, h4⟩
end Go.Proofs.Ytcelehhaggoijaa
