/-
  The walk of the statement InterpSums.
-/
import Derived.Test.YthpodinbbmgfoaaIpHead
import Derived.Laws.BitsAllLaws
set_option linter.unusedVariables false
set_option linter.unusedSimpArgs false
namespace Go.Proofs.Ip
open Go Go.Proofs.Cd
theorem good_list {l : List Inst} (h : ∀ y ∈ l, (0 ≤ y.1 ∧ y.1 ≤ 37) ∧ y.2 < 18446744073709551616) : ∀ y ∈ l, goodI y := fun y hy => ⟨by have := h y hy; omega, by have := h y hy; omega, (h y hy).2⟩
theorem gPA {w v : Nat} (hw : w < 18446744073709551616) (hv : v < 18446744073709551616) : ∀ y ∈ PA w v, goodI y := good_list (by simp [PA, hw, hv])
theorem gPB {w v : Nat} (hw : w < 18446744073709551616) (hv : v < 18446744073709551616) : ∀ y ∈ PB w v, goodI y := good_list (by simp [PB, hw, hv])
theorem gPC {w v : Nat} (hw : w < 18446744073709551616) (hv : v < 18446744073709551616) : ∀ y ∈ PC w v, goodI y := good_list (by simp [PC, hw, hv])
theorem and_low (w k : Nat) (hw : w < 2 ^ 64) (hk : k < 64) : w &&& (2 ^ 64 - (2 ^ k - 1 + 1)) = w / 2 ^ k * 2 ^ k := by
  have hp : 2 ^ k - 1 < 2 ^ 64 := by
    have : 2 ^ k ≤ 2 ^ 64 := Nat.pow_le_pow_right (by decide) (by omega)
    omega
  rw [← Nat.shiftRight_eq_div_pow, ← Nat.shiftLeft_eq]
  apply Nat.eq_of_testBit_eq
  intro i
  rw [Nat.testBit_and, Nat.testBit_two_pow_sub_succ hp, Nat.testBit_two_pow_sub_one, Nat.testBit_shiftLeft, Nat.testBit_shiftRight]
  by_cases h1 : i < k
  · simp [h1, show ¬ k ≤ i by omega]
  · rw [decide_eq_false h1, decide_eq_true (show i ≥ k by omega), show k + (i - k) = i by omega]
    by_cases h2 : i < 64
    · simp [h2]
    · have : w.testBit i = false := Nat.testBit_lt_two_pow (Nat.lt_of_lt_of_le hw (Nat.pow_le_pow_right (by decide) (by omega)))
      simp [this]
theorem and_not_low (w k : Nat) (hw : w < 18446744073709551616) (hk : k < 64) : (w : Int) / 2 ^ k * 2 ^ k = bits .andNot .u64 (w : Int) (IntKind.u64.wrap (IntKind.u64.wrap (2 ^ k) - 1)) := by
  have hp : 2 ^ k ≤ 2 ^ 63 := Nat.pow_le_pow_right (by decide) (by omega)
  have hp0 : 0 < 2 ^ k := Nat.pow_pos (by decide)
  have hp' : (2 ^ k : Nat) ≤ 9223372036854775808 := hp
  have e1 : IntKind.u64.wrap ((2 : Int) ^ k) = ((2 ^ k : Nat) : Int) := by
    have hc : ((2 : Int) ^ k) = ((2 ^ k : Nat) : Int) := by simp
    rw [hc]; simp only [IntKind.wrap]; simp [IntKind.bits, IntKind.signed]; omega
  have e2 : IntKind.u64.wrap (((2 ^ k : Nat) : Int) - 1) = ((2 ^ k - 1 : Nat) : Int) := by
    have hc : (((2 ^ k : Nat) : Int) - 1) = ((2 ^ k - 1 : Nat) : Int) := by omega
    rw [hc]; simp only [IntKind.wrap]; simp [IntKind.bits, IntKind.signed]; omega
  rw [e1, e2, u64_andNot_nat w (2 ^ k - 1) hw (by omega)]
  have h := and_low w k hw hk
  have e3 : (18446744073709551615 - (2 ^ k - 1) : Nat) = 2 ^ 64 - (2 ^ k - 1 + 1) := by
    have : (2 ^ 64 : Nat) = 18446744073709551616 := by decide
    omega
  rw [e3, h]
  simp
end Go.Proofs.Ip
namespace Go.Proofs.Ythpodinbbmgfoaa
open Go.Proofs.Ip Go.Proofs.Pt Go.Proofs.Pg Go.Proofs.Cd Go.RowKit Go.Shelf
set_option maxRecDepth 100000 in
set_option maxHeartbeats 2000000 in
theorem Sums30_out (w0 v0 : Nat) (k : Int) (hk : k < 0 ∨ 63 < k) (w : World) : Calls Try.prog 17 #[.int .u64 (w0 : Nat), .int .u64 (v0 : Nat), .int .i64 k] w fun e w' => e = .returned (.bool true) ∧ New w w' := by
  have hv := Mem.nil w
  rcases hk with h | h
  · have h1 : decide (k < 0) = true := decide_eq_true h
    clear h
    go_enter Try.func17, Try.ntmps17
    go_wp2_with (first
      | (go_at_call 71; (with_reducible refine (heads30 _).mono ?_); rintro e w1 ⟨rfl, hn1⟩; replace hv := hv.new hn1; clear hn1))
    go_ret
    exact ⟨rfl, hv.below⟩
  · have h1 : decide (k < 0) = false := decide_eq_false (by omega)
    have h2 : decide (63 < k) = true := decide_eq_true h
    clear h
    go_enter Try.func17, Try.ntmps17
    go_wp2_with (first
      | (go_at_call 71; (with_reducible refine (heads30 _).mono ?_); rintro e w1 ⟨rfl, hn1⟩; replace hv := hv.new hn1; clear hn1))
    go_ret
    exact ⟨rfl, hv.below⟩
set_option maxRecDepth 100000 in
set_option maxHeartbeats 2000000 in
theorem Sums30_zero (w k : Nat) (hw : w < 18446744073709551616) (hk : k < 64) (wl : World) : Calls Try.prog 17 #[.int .u64 (w : Nat), .int .u64 0, .int .i64 (k : Nat)] wl fun e w' => e = .returned (.bool true) ∧ New wl w' := by
  have hv := Mem.nil wl
  have hk1 : decide ((k : Int) < 0) = false := decide_eq_false (by omega)
  have hk2 : decide (63 < (k : Int)) = false := decide_eq_false (by omega)
  have hk3 : k < 18446744073709551616 := by omega
  have hk4 : (k : Int) < 64 := by omega
  have HW := Lib.hid hw
  have HK := Lib.hid hk3
  clear hw hk3
  have hc := and_not_low w k HW.out hk
  clear hk
  go_enter Try.func17, Try.ntmps17
  go_wp2_with (first
    | (go_at_call 70; replace hv := hv.bsl (k := 2) (n := 6) (c := cellsI (PA w 0)) ⟨rfl, made_alloc _ #[.int .i64 1, .int .u64 (w : Nat), .int .i64 1, .int .u64 0, .int .i64 6, .int .u64 0, .int .i64 1, .int .u64 0, .int .i64 7, .int .u64 0, .int .i64 0, .int .u64 0] 77⟩ rfl rfl (by unfold maxLen; omega); (with_reducible refine (run_one (l := PA w 0) (ni := 9) (by omega) (gPA HW.out (by decide)) (rA HW.out (by decide)) (by omega) _ _ _ _ _ hv Mem.z).mono ?_); rintro e w1 ⟨sb1, so1, sc1, ra1, rn1, rc1, rfl, hv1⟩; replace hv := hv1; clear hv1)
    | (go_at_call 70; replace hv := hv.bsl (k := 2) (n := 10) (c := cellsI (PB w 0)) ⟨rfl, made_alloc _ #[.int .i64 1, .int .u64 (w : Nat), .int .i64 1, .int .u64 0, .int .i64 9, .int .u64 0, .int .i64 1, .int .u64 0, .int .i64 8, .int .u64 0, .int .i64 1, .int .u64 (w : Nat), .int .i64 1, .int .u64 0, .int .i64 10, .int .u64 0, .int .i64 6, .int .u64 0, .int .i64 0, .int .u64 0] 77⟩ rfl rfl (by unfold maxLen; omega); (with_reducible refine (run_err (l := PB w 0) (ni := 12) (by omega) (gPB HW.out (by decide)) (rB0 HW.out) (by omega) _ _ _ _ _ hv Mem.z).mono ?_); rintro e w1 ⟨st2, pc2, sa2, sn2, sc2, ra2, rn2, rc2, wk2, sk2, er2, rfl, hv1⟩; replace hv := hv1; clear hv1)
    | (go_at_call 70; replace hv := hv.bsl (k := 2) (n := 6) (c := cellsI (PC w k)) ⟨rfl, made_alloc _ #[.int .i64 1, .int .u64 (w : Nat), .int .i64 1, .int .u64 (k : Nat), .int .i64 15, .int .u64 0, .int .i64 1, .int .u64 (k : Nat), .int .i64 14, .int .u64 0, .int .i64 0, .int .u64 0] 77⟩ rfl rfl (by unfold maxLen; omega); (with_reducible refine (run_one (l := PC w k) (ni := 9) (by omega) (gPC HW.out HK.out) (rC HW.out HK.out) (by omega) _ _ _ _ _ hv Mem.z).mono ?_); rintro e w1 ⟨sb3, so3, sc3, ra3, rn3, rc3, rfl, hv1⟩; replace hv := hv1; clear hv1)
    | ((with_reducible refine at_alloc (T := 79) (dst := some 7) ?_); refine wl_newb rfl #[.int .i64 0, .int .i64 0, .slice none 0 0, .slice none 0 0, .int .u64 0, .int .i64 0, .int .i64 0] 79 (fun _ => rfl) ?_; intro b7 w2 hm2; replace hv := hv.madeAt hm2; clear hm2)
    | ((with_reducible refine at_alloc (T := 79) (dst := some 9) ?_); refine wl_newb rfl #[.int .i64 0, .int .i64 0, .slice none 0 0, .slice none 0 0, .int .u64 0, .int .i64 0, .int .i64 0] 79 (fun _ => rfl) ?_; intro b9 w2 hm2; replace hv := hv.madeAt hm2; clear hm2)
    | ((with_reducible refine at_alloc (T := 79) (dst := some 11) ?_); refine wl_newb rfl #[.int .i64 0, .int .i64 0, .slice none 0 0, .slice none 0 0, .int .u64 0, .int .i64 0, .int .i64 0] 79 (fun _ => rfl) ?_; intro b11 w2 hm2; replace hv := hv.madeAt hm2; clear hm2)
    | ((with_reducible refine at_store (T := 79) ?_); refine wl_stv rfl b7 rfl _ rfl _ (hv.vars.row (by first | exact .head _ | exact .tail _ (.head _) | exact .tail _ (.tail _ (.head _)) | exact .tail _ (.tail _ (.tail _ (.head _))) | exact .tail _ (.tail _ (.tail _ (.tail _ (.head _)))) | exact .tail _ (.tail _ (.tail _ (.tail _ (.tail _ (.head _))))) | exact .tail _ (.tail _ (.tail _ (.tail _ (.tail _ (.tail _ (.head _)))))) | exact .tail _ (.tail _ (.tail _ (.tail _ (.tail _ (.tail _ (.tail _ (.head _))))))))) (hv.vars.sft (by first | exact .head _ | exact .tail _ (.head _) | exact .tail _ (.tail _ (.head _)) | exact .tail _ (.tail _ (.tail _ (.head _))) | exact .tail _ (.tail _ (.tail _ (.tail _ (.head _)))) | exact .tail _ (.tail _ (.tail _ (.tail _ (.tail _ (.head _))))) | exact .tail _ (.tail _ (.tail _ (.tail _ (.tail _ (.tail _ (.head _)))))) | exact .tail _ (.tail _ (.tail _ (.tail _ (.tail _ (.tail _ (.tail _ (.head _))))))))) 7 infoT rfl rfl (by simp [Value.oneCell']) ?_; intro w2 hw2; (first | (replace hv := hv.set 0 rfl hw2) | (replace hv := hv.set 1 rfl hw2) | (replace hv := hv.set 2 rfl hw2) | (replace hv := hv.set 3 rfl hw2) | (replace hv := hv.set 4 rfl hw2) | (replace hv := hv.set 5 rfl hw2) | (replace hv := hv.set 6 rfl hw2) | (replace hv := hv.set 7 rfl hw2)); clear hw2; simp only [List.set] at hv)
    | ((with_reducible refine at_store (T := 79) ?_); refine wl_stv rfl b9 rfl _ rfl _ (hv.vars.row (by first | exact .head _ | exact .tail _ (.head _) | exact .tail _ (.tail _ (.head _)) | exact .tail _ (.tail _ (.tail _ (.head _))) | exact .tail _ (.tail _ (.tail _ (.tail _ (.head _)))) | exact .tail _ (.tail _ (.tail _ (.tail _ (.tail _ (.head _))))) | exact .tail _ (.tail _ (.tail _ (.tail _ (.tail _ (.tail _ (.head _)))))) | exact .tail _ (.tail _ (.tail _ (.tail _ (.tail _ (.tail _ (.tail _ (.head _))))))))) (hv.vars.sft (by first | exact .head _ | exact .tail _ (.head _) | exact .tail _ (.tail _ (.head _)) | exact .tail _ (.tail _ (.tail _ (.head _))) | exact .tail _ (.tail _ (.tail _ (.tail _ (.head _)))) | exact .tail _ (.tail _ (.tail _ (.tail _ (.tail _ (.head _))))) | exact .tail _ (.tail _ (.tail _ (.tail _ (.tail _ (.tail _ (.head _)))))) | exact .tail _ (.tail _ (.tail _ (.tail _ (.tail _ (.tail _ (.tail _ (.head _))))))))) 7 infoT rfl rfl (by simp [Value.oneCell']) ?_; intro w2 hw2; (first | (replace hv := hv.set 0 rfl hw2) | (replace hv := hv.set 1 rfl hw2) | (replace hv := hv.set 2 rfl hw2) | (replace hv := hv.set 3 rfl hw2) | (replace hv := hv.set 4 rfl hw2) | (replace hv := hv.set 5 rfl hw2) | (replace hv := hv.set 6 rfl hw2) | (replace hv := hv.set 7 rfl hw2)); clear hw2; simp only [List.set] at hv)
    | ((with_reducible refine at_store (T := 79) ?_); refine wl_stv rfl b11 rfl _ rfl _ (hv.vars.row (by first | exact .head _ | exact .tail _ (.head _) | exact .tail _ (.tail _ (.head _)) | exact .tail _ (.tail _ (.tail _ (.head _))) | exact .tail _ (.tail _ (.tail _ (.tail _ (.head _)))) | exact .tail _ (.tail _ (.tail _ (.tail _ (.tail _ (.head _))))) | exact .tail _ (.tail _ (.tail _ (.tail _ (.tail _ (.tail _ (.head _)))))) | exact .tail _ (.tail _ (.tail _ (.tail _ (.tail _ (.tail _ (.tail _ (.head _))))))))) (hv.vars.sft (by first | exact .head _ | exact .tail _ (.head _) | exact .tail _ (.tail _ (.head _)) | exact .tail _ (.tail _ (.tail _ (.head _))) | exact .tail _ (.tail _ (.tail _ (.tail _ (.head _)))) | exact .tail _ (.tail _ (.tail _ (.tail _ (.tail _ (.head _))))) | exact .tail _ (.tail _ (.tail _ (.tail _ (.tail _ (.tail _ (.head _)))))) | exact .tail _ (.tail _ (.tail _ (.tail _ (.tail _ (.tail _ (.tail _ (.head _))))))))) 7 infoT rfl rfl (by simp [Value.oneCell']) ?_; intro w2 hw2; (first | (replace hv := hv.set 0 rfl hw2) | (replace hv := hv.set 1 rfl hw2) | (replace hv := hv.set 2 rfl hw2) | (replace hv := hv.set 3 rfl hw2) | (replace hv := hv.set 4 rfl hw2) | (replace hv := hv.set 5 rfl hw2) | (replace hv := hv.set 6 rfl hw2) | (replace hv := hv.set 7 rfl hw2)); clear hw2; simp only [List.set] at hv)
    | ((with_reducible refine at_load (T := 29) ?_); refine wl_ldc rfl _ _ rfl _ (hv.vars.row (by first | exact .head _ | exact .tail _ (.head _) | exact .tail _ (.tail _ (.head _)) | exact .tail _ (.tail _ (.tail _ (.head _))) | exact .tail _ (.tail _ (.tail _ (.tail _ (.head _)))) | exact .tail _ (.tail _ (.tail _ (.tail _ (.tail _ (.head _))))) | exact .tail _ (.tail _ (.tail _ (.tail _ (.tail _ (.tail _ (.head _)))))) | exact .tail _ (.tail _ (.tail _ (.tail _ (.tail _ (.tail _ (.tail _ (.head _))))))))) _ Try.underlying29 rfl _ rfl ?_)
    | ((with_reducible refine at_load (T := 32) ?_); refine wl_ldc rfl _ _ rfl _ (hv.vars.row (by first | exact .head _ | exact .tail _ (.head _) | exact .tail _ (.tail _ (.head _)) | exact .tail _ (.tail _ (.tail _ (.head _))) | exact .tail _ (.tail _ (.tail _ (.tail _ (.head _)))) | exact .tail _ (.tail _ (.tail _ (.tail _ (.tail _ (.head _))))) | exact .tail _ (.tail _ (.tail _ (.tail _ (.tail _ (.tail _ (.head _)))))) | exact .tail _ (.tail _ (.tail _ (.tail _ (.tail _ (.tail _ (.tail _ (.head _))))))))) _ Try.underlying32 rfl _ rfl ?_)
    | ((with_reducible refine at_load (T := 3) ?_); refine wl_ldc rfl _ _ rfl _ (hv.vars.row (by first | exact .head _ | exact .tail _ (.head _) | exact .tail _ (.tail _ (.head _)) | exact .tail _ (.tail _ (.tail _ (.head _))) | exact .tail _ (.tail _ (.tail _ (.tail _ (.head _)))) | exact .tail _ (.tail _ (.tail _ (.tail _ (.tail _ (.head _))))) | exact .tail _ (.tail _ (.tail _ (.tail _ (.tail _ (.tail _ (.head _)))))) | exact .tail _ (.tail _ (.tail _ (.tail _ (.tail _ (.tail _ (.tail _ (.head _))))))))) _ Try.underlying3 rfl _ rfl ?_)
    | ((with_reducible refine at_load (T := 22) ?_); refine wl_rd rfl (c := cellsU [w]) (hv.rd (by first | exact Mem.z | exact Mem.s (Mem.z) | exact Mem.s (Mem.s (Mem.z)) | exact Mem.s (Mem.s (Mem.s (Mem.z))) | exact Mem.s (Mem.s (Mem.s (Mem.s (Mem.z)))) | exact Mem.s (Mem.s (Mem.s (Mem.s (Mem.s (Mem.z))))) | exact Mem.s (Mem.s (Mem.s (Mem.s (Mem.s (Mem.s (Mem.z)))))) | exact Mem.s (Mem.s (Mem.s (Mem.s (Mem.s (Mem.s (Mem.s (Mem.z))))))) | exact Mem.s (Mem.s (Mem.s (Mem.s (Mem.s (Mem.s (Mem.s (Mem.s (Mem.z)))))))) | exact Mem.s (Mem.s (Mem.s (Mem.s (Mem.s (Mem.s (Mem.s (Mem.s (Mem.s (Mem.z))))))))) | exact Mem.s (Mem.s (Mem.s (Mem.s (Mem.s (Mem.s (Mem.s (Mem.s (Mem.s (Mem.s (Mem.z)))))))))) | exact Mem.s (Mem.s (Mem.s (Mem.s (Mem.s (Mem.s (Mem.s (Mem.s (Mem.s (Mem.s (Mem.s (Mem.z))))))))))) | exact Mem.s (Mem.s (Mem.s (Mem.s (Mem.s (Mem.s (Mem.s (Mem.s (Mem.s (Mem.s (Mem.s (Mem.s (Mem.z)))))))))))) | exact Mem.s (Mem.s (Mem.s (Mem.s (Mem.s (Mem.s (Mem.s (Mem.s (Mem.s (Mem.s (Mem.s (Mem.s (Mem.s (Mem.z))))))))))))) | exact Mem.s (Mem.s (Mem.s (Mem.s (Mem.s (Mem.s (Mem.s (Mem.s (Mem.s (Mem.s (Mem.s (Mem.s (Mem.s (Mem.s (Mem.z)))))))))))))) | exact Mem.s (Mem.s (Mem.s (Mem.s (Mem.s (Mem.s (Mem.s (Mem.s (Mem.s (Mem.s (Mem.s (Mem.s (Mem.s (Mem.s (Mem.s (Mem.z))))))))))))))))) 0 rfl _ Try.underlying22 rfl _ rfl ?_)
    | ((with_reducible refine at_load (T := 22) ?_); refine wl_rd rfl (c := cellsU [w / 2 ^ k * 2 ^ k]) (hv.rd (by first | exact Mem.z | exact Mem.s (Mem.z) | exact Mem.s (Mem.s (Mem.z)) | exact Mem.s (Mem.s (Mem.s (Mem.z))) | exact Mem.s (Mem.s (Mem.s (Mem.s (Mem.z)))) | exact Mem.s (Mem.s (Mem.s (Mem.s (Mem.s (Mem.z))))) | exact Mem.s (Mem.s (Mem.s (Mem.s (Mem.s (Mem.s (Mem.z)))))) | exact Mem.s (Mem.s (Mem.s (Mem.s (Mem.s (Mem.s (Mem.s (Mem.z))))))) | exact Mem.s (Mem.s (Mem.s (Mem.s (Mem.s (Mem.s (Mem.s (Mem.s (Mem.z)))))))) | exact Mem.s (Mem.s (Mem.s (Mem.s (Mem.s (Mem.s (Mem.s (Mem.s (Mem.s (Mem.z))))))))) | exact Mem.s (Mem.s (Mem.s (Mem.s (Mem.s (Mem.s (Mem.s (Mem.s (Mem.s (Mem.s (Mem.z)))))))))) | exact Mem.s (Mem.s (Mem.s (Mem.s (Mem.s (Mem.s (Mem.s (Mem.s (Mem.s (Mem.s (Mem.s (Mem.z))))))))))) | exact Mem.s (Mem.s (Mem.s (Mem.s (Mem.s (Mem.s (Mem.s (Mem.s (Mem.s (Mem.s (Mem.s (Mem.s (Mem.z)))))))))))) | exact Mem.s (Mem.s (Mem.s (Mem.s (Mem.s (Mem.s (Mem.s (Mem.s (Mem.s (Mem.s (Mem.s (Mem.s (Mem.s (Mem.z))))))))))))) | exact Mem.s (Mem.s (Mem.s (Mem.s (Mem.s (Mem.s (Mem.s (Mem.s (Mem.s (Mem.s (Mem.s (Mem.s (Mem.s (Mem.s (Mem.z)))))))))))))) | exact Mem.s (Mem.s (Mem.s (Mem.s (Mem.s (Mem.s (Mem.s (Mem.s (Mem.s (Mem.s (Mem.s (Mem.s (Mem.s (Mem.s (Mem.s (Mem.z))))))))))))))))) 0 rfl _ Try.underlying22 rfl _ rfl ?_)
    | (go_at_call 71; (with_reducible refine (heads30 _).mono ?_); rintro e w1 ⟨rfl, hn1⟩; replace hv := hv.new hn1; clear hn1))
  all_goals first
    | exact absurd HC.out (by assumption)
    | (go_ret
       exact ⟨rfl, hv.below⟩)
set_option maxRecDepth 100000 in
set_option maxHeartbeats 2000000 in
theorem Sums30_in (w v k : Nat) (hw : w < 18446744073709551616) (hv0 : v < 18446744073709551616) (h0 : v ≠ 0) (hk : k < 64) (wl : World) : Calls Try.prog 17 #[.int .u64 (w : Nat), .int .u64 (v : Nat), .int .i64 (k : Nat)] wl fun e w' => e = .returned (.bool true) ∧ New wl w' := by
  have hv := Mem.nil wl
  have hk1 : decide ((k : Int) < 0) = false := decide_eq_false (by omega)
  have hk2 : decide (63 < (k : Int)) = false := decide_eq_false (by omega)
  have hk3 : k < 18446744073709551616 := by omega
  have hk4 : (k : Int) < 64 := by omega
  have HW := Lib.hid hw
  have HK := Lib.hid hk3
  clear hw hk3
  have HV := Lib.hid hv0
  have H0 := Lib.hid h0
  have hz : ((v : Int) == 0) = false := by rw [beq_eq_false_iff_ne]; omega
  clear hv0 h0
  have hc := and_not_low w k HW.out hk
  clear hk
  go_enter Try.func17, Try.ntmps17
  go_wp2_with (first
    | (go_at_call 70; replace hv := hv.bsl (k := 2) (n := 6) (c := cellsI (PA w v)) ⟨rfl, made_alloc _ #[.int .i64 1, .int .u64 (w : Nat), .int .i64 1, .int .u64 (v : Nat), .int .i64 6, .int .u64 0, .int .i64 1, .int .u64 (v : Nat), .int .i64 7, .int .u64 0, .int .i64 0, .int .u64 0] 77⟩ rfl rfl (by unfold maxLen; omega); (with_reducible refine (run_one (l := PA w v) (ni := 9) (by omega) (gPA HW.out HV.out) (rA HW.out HV.out) (by omega) _ _ _ _ _ hv Mem.z).mono ?_); rintro e w1 ⟨sb1, so1, sc1, ra1, rn1, rc1, rfl, hv1⟩; replace hv := hv1; clear hv1)
    | (go_at_call 70; replace hv := hv.bsl (k := 2) (n := 10) (c := cellsI (PB w v)) ⟨rfl, made_alloc _ #[.int .i64 1, .int .u64 (w : Nat), .int .i64 1, .int .u64 (v : Nat), .int .i64 9, .int .u64 0, .int .i64 1, .int .u64 (v : Nat), .int .i64 8, .int .u64 0, .int .i64 1, .int .u64 (w : Nat), .int .i64 1, .int .u64 (v : Nat), .int .i64 10, .int .u64 0, .int .i64 6, .int .u64 0, .int .i64 0, .int .u64 0] 77⟩ rfl rfl (by unfold maxLen; omega); (with_reducible refine (run_one (l := PB w v) (ni := 12) (by omega) (gPB HW.out HV.out) (rB HW.out HV.out H0.out) (by omega) _ _ _ _ _ hv Mem.z).mono ?_); rintro e w1 ⟨sb2, so2, sc2, ra2, rn2, rc2, rfl, hv1⟩; replace hv := hv1; clear hv1)
    | (go_at_call 70; replace hv := hv.bsl (k := 2) (n := 6) (c := cellsI (PC w k)) ⟨rfl, made_alloc _ #[.int .i64 1, .int .u64 (w : Nat), .int .i64 1, .int .u64 (k : Nat), .int .i64 15, .int .u64 0, .int .i64 1, .int .u64 (k : Nat), .int .i64 14, .int .u64 0, .int .i64 0, .int .u64 0] 77⟩ rfl rfl (by unfold maxLen; omega); (with_reducible refine (run_one (l := PC w k) (ni := 9) (by omega) (gPC HW.out HK.out) (rC HW.out HK.out) (by omega) _ _ _ _ _ hv Mem.z).mono ?_); rintro e w1 ⟨sb3, so3, sc3, ra3, rn3, rc3, rfl, hv1⟩; replace hv := hv1; clear hv1)
    | ((with_reducible refine at_alloc (T := 79) (dst := some 7) ?_); refine wl_newb rfl #[.int .i64 0, .int .i64 0, .slice none 0 0, .slice none 0 0, .int .u64 0, .int .i64 0, .int .i64 0] 79 (fun _ => rfl) ?_; intro b7 w2 hm2; replace hv := hv.madeAt hm2; clear hm2)
    | ((with_reducible refine at_alloc (T := 79) (dst := some 9) ?_); refine wl_newb rfl #[.int .i64 0, .int .i64 0, .slice none 0 0, .slice none 0 0, .int .u64 0, .int .i64 0, .int .i64 0] 79 (fun _ => rfl) ?_; intro b9 w2 hm2; replace hv := hv.madeAt hm2; clear hm2)
    | ((with_reducible refine at_alloc (T := 79) (dst := some 11) ?_); refine wl_newb rfl #[.int .i64 0, .int .i64 0, .slice none 0 0, .slice none 0 0, .int .u64 0, .int .i64 0, .int .i64 0] 79 (fun _ => rfl) ?_; intro b11 w2 hm2; replace hv := hv.madeAt hm2; clear hm2)
    | ((with_reducible refine at_store (T := 79) ?_); refine wl_stv rfl b7 rfl _ rfl _ (hv.vars.row (by first | exact .head _ | exact .tail _ (.head _) | exact .tail _ (.tail _ (.head _)) | exact .tail _ (.tail _ (.tail _ (.head _))) | exact .tail _ (.tail _ (.tail _ (.tail _ (.head _)))) | exact .tail _ (.tail _ (.tail _ (.tail _ (.tail _ (.head _))))) | exact .tail _ (.tail _ (.tail _ (.tail _ (.tail _ (.tail _ (.head _)))))) | exact .tail _ (.tail _ (.tail _ (.tail _ (.tail _ (.tail _ (.tail _ (.head _))))))))) (hv.vars.sft (by first | exact .head _ | exact .tail _ (.head _) | exact .tail _ (.tail _ (.head _)) | exact .tail _ (.tail _ (.tail _ (.head _))) | exact .tail _ (.tail _ (.tail _ (.tail _ (.head _)))) | exact .tail _ (.tail _ (.tail _ (.tail _ (.tail _ (.head _))))) | exact .tail _ (.tail _ (.tail _ (.tail _ (.tail _ (.tail _ (.head _)))))) | exact .tail _ (.tail _ (.tail _ (.tail _ (.tail _ (.tail _ (.tail _ (.head _))))))))) 7 infoT rfl rfl (by simp [Value.oneCell']) ?_; intro w2 hw2; (first | (replace hv := hv.set 0 rfl hw2) | (replace hv := hv.set 1 rfl hw2) | (replace hv := hv.set 2 rfl hw2) | (replace hv := hv.set 3 rfl hw2) | (replace hv := hv.set 4 rfl hw2) | (replace hv := hv.set 5 rfl hw2) | (replace hv := hv.set 6 rfl hw2) | (replace hv := hv.set 7 rfl hw2)); clear hw2; simp only [List.set] at hv)
    | ((with_reducible refine at_store (T := 79) ?_); refine wl_stv rfl b9 rfl _ rfl _ (hv.vars.row (by first | exact .head _ | exact .tail _ (.head _) | exact .tail _ (.tail _ (.head _)) | exact .tail _ (.tail _ (.tail _ (.head _))) | exact .tail _ (.tail _ (.tail _ (.tail _ (.head _)))) | exact .tail _ (.tail _ (.tail _ (.tail _ (.tail _ (.head _))))) | exact .tail _ (.tail _ (.tail _ (.tail _ (.tail _ (.tail _ (.head _)))))) | exact .tail _ (.tail _ (.tail _ (.tail _ (.tail _ (.tail _ (.tail _ (.head _))))))))) (hv.vars.sft (by first | exact .head _ | exact .tail _ (.head _) | exact .tail _ (.tail _ (.head _)) | exact .tail _ (.tail _ (.tail _ (.head _))) | exact .tail _ (.tail _ (.tail _ (.tail _ (.head _)))) | exact .tail _ (.tail _ (.tail _ (.tail _ (.tail _ (.head _))))) | exact .tail _ (.tail _ (.tail _ (.tail _ (.tail _ (.tail _ (.head _)))))) | exact .tail _ (.tail _ (.tail _ (.tail _ (.tail _ (.tail _ (.tail _ (.head _))))))))) 7 infoT rfl rfl (by simp [Value.oneCell']) ?_; intro w2 hw2; (first | (replace hv := hv.set 0 rfl hw2) | (replace hv := hv.set 1 rfl hw2) | (replace hv := hv.set 2 rfl hw2) | (replace hv := hv.set 3 rfl hw2) | (replace hv := hv.set 4 rfl hw2) | (replace hv := hv.set 5 rfl hw2) | (replace hv := hv.set 6 rfl hw2) | (replace hv := hv.set 7 rfl hw2)); clear hw2; simp only [List.set] at hv)
    | ((with_reducible refine at_store (T := 79) ?_); refine wl_stv rfl b11 rfl _ rfl _ (hv.vars.row (by first | exact .head _ | exact .tail _ (.head _) | exact .tail _ (.tail _ (.head _)) | exact .tail _ (.tail _ (.tail _ (.head _))) | exact .tail _ (.tail _ (.tail _ (.tail _ (.head _)))) | exact .tail _ (.tail _ (.tail _ (.tail _ (.tail _ (.head _))))) | exact .tail _ (.tail _ (.tail _ (.tail _ (.tail _ (.tail _ (.head _)))))) | exact .tail _ (.tail _ (.tail _ (.tail _ (.tail _ (.tail _ (.tail _ (.head _))))))))) (hv.vars.sft (by first | exact .head _ | exact .tail _ (.head _) | exact .tail _ (.tail _ (.head _)) | exact .tail _ (.tail _ (.tail _ (.head _))) | exact .tail _ (.tail _ (.tail _ (.tail _ (.head _)))) | exact .tail _ (.tail _ (.tail _ (.tail _ (.tail _ (.head _))))) | exact .tail _ (.tail _ (.tail _ (.tail _ (.tail _ (.tail _ (.head _)))))) | exact .tail _ (.tail _ (.tail _ (.tail _ (.tail _ (.tail _ (.tail _ (.head _))))))))) 7 infoT rfl rfl (by simp [Value.oneCell']) ?_; intro w2 hw2; (first | (replace hv := hv.set 0 rfl hw2) | (replace hv := hv.set 1 rfl hw2) | (replace hv := hv.set 2 rfl hw2) | (replace hv := hv.set 3 rfl hw2) | (replace hv := hv.set 4 rfl hw2) | (replace hv := hv.set 5 rfl hw2) | (replace hv := hv.set 6 rfl hw2) | (replace hv := hv.set 7 rfl hw2)); clear hw2; simp only [List.set] at hv)
    | ((with_reducible refine at_load (T := 29) ?_); refine wl_ldc rfl _ _ rfl _ (hv.vars.row (by first | exact .head _ | exact .tail _ (.head _) | exact .tail _ (.tail _ (.head _)) | exact .tail _ (.tail _ (.tail _ (.head _))) | exact .tail _ (.tail _ (.tail _ (.tail _ (.head _)))) | exact .tail _ (.tail _ (.tail _ (.tail _ (.tail _ (.head _))))) | exact .tail _ (.tail _ (.tail _ (.tail _ (.tail _ (.tail _ (.head _)))))) | exact .tail _ (.tail _ (.tail _ (.tail _ (.tail _ (.tail _ (.tail _ (.head _))))))))) _ Try.underlying29 rfl _ rfl ?_)
    | ((with_reducible refine at_load (T := 32) ?_); refine wl_ldc rfl _ _ rfl _ (hv.vars.row (by first | exact .head _ | exact .tail _ (.head _) | exact .tail _ (.tail _ (.head _)) | exact .tail _ (.tail _ (.tail _ (.head _))) | exact .tail _ (.tail _ (.tail _ (.tail _ (.head _)))) | exact .tail _ (.tail _ (.tail _ (.tail _ (.tail _ (.head _))))) | exact .tail _ (.tail _ (.tail _ (.tail _ (.tail _ (.tail _ (.head _)))))) | exact .tail _ (.tail _ (.tail _ (.tail _ (.tail _ (.tail _ (.tail _ (.head _))))))))) _ Try.underlying32 rfl _ rfl ?_)
    | ((with_reducible refine at_load (T := 3) ?_); refine wl_ldc rfl _ _ rfl _ (hv.vars.row (by first | exact .head _ | exact .tail _ (.head _) | exact .tail _ (.tail _ (.head _)) | exact .tail _ (.tail _ (.tail _ (.head _))) | exact .tail _ (.tail _ (.tail _ (.tail _ (.head _)))) | exact .tail _ (.tail _ (.tail _ (.tail _ (.tail _ (.head _))))) | exact .tail _ (.tail _ (.tail _ (.tail _ (.tail _ (.tail _ (.head _)))))) | exact .tail _ (.tail _ (.tail _ (.tail _ (.tail _ (.tail _ (.tail _ (.head _))))))))) _ Try.underlying3 rfl _ rfl ?_)
    | ((with_reducible refine at_load (T := 22) ?_); refine wl_rd rfl (c := cellsU [w]) (hv.rd (by first | exact Mem.z | exact Mem.s (Mem.z) | exact Mem.s (Mem.s (Mem.z)) | exact Mem.s (Mem.s (Mem.s (Mem.z))) | exact Mem.s (Mem.s (Mem.s (Mem.s (Mem.z)))) | exact Mem.s (Mem.s (Mem.s (Mem.s (Mem.s (Mem.z))))) | exact Mem.s (Mem.s (Mem.s (Mem.s (Mem.s (Mem.s (Mem.z)))))) | exact Mem.s (Mem.s (Mem.s (Mem.s (Mem.s (Mem.s (Mem.s (Mem.z))))))) | exact Mem.s (Mem.s (Mem.s (Mem.s (Mem.s (Mem.s (Mem.s (Mem.s (Mem.z)))))))) | exact Mem.s (Mem.s (Mem.s (Mem.s (Mem.s (Mem.s (Mem.s (Mem.s (Mem.s (Mem.z))))))))) | exact Mem.s (Mem.s (Mem.s (Mem.s (Mem.s (Mem.s (Mem.s (Mem.s (Mem.s (Mem.s (Mem.z)))))))))) | exact Mem.s (Mem.s (Mem.s (Mem.s (Mem.s (Mem.s (Mem.s (Mem.s (Mem.s (Mem.s (Mem.s (Mem.z))))))))))) | exact Mem.s (Mem.s (Mem.s (Mem.s (Mem.s (Mem.s (Mem.s (Mem.s (Mem.s (Mem.s (Mem.s (Mem.s (Mem.z)))))))))))) | exact Mem.s (Mem.s (Mem.s (Mem.s (Mem.s (Mem.s (Mem.s (Mem.s (Mem.s (Mem.s (Mem.s (Mem.s (Mem.s (Mem.z))))))))))))) | exact Mem.s (Mem.s (Mem.s (Mem.s (Mem.s (Mem.s (Mem.s (Mem.s (Mem.s (Mem.s (Mem.s (Mem.s (Mem.s (Mem.s (Mem.z)))))))))))))) | exact Mem.s (Mem.s (Mem.s (Mem.s (Mem.s (Mem.s (Mem.s (Mem.s (Mem.s (Mem.s (Mem.s (Mem.s (Mem.s (Mem.s (Mem.s (Mem.z))))))))))))))))) 0 rfl _ Try.underlying22 rfl _ rfl ?_)
    | ((with_reducible refine at_load (T := 22) ?_); refine wl_rd rfl (c := cellsU [w / 2 ^ k * 2 ^ k]) (hv.rd (by first | exact Mem.z | exact Mem.s (Mem.z) | exact Mem.s (Mem.s (Mem.z)) | exact Mem.s (Mem.s (Mem.s (Mem.z))) | exact Mem.s (Mem.s (Mem.s (Mem.s (Mem.z)))) | exact Mem.s (Mem.s (Mem.s (Mem.s (Mem.s (Mem.z))))) | exact Mem.s (Mem.s (Mem.s (Mem.s (Mem.s (Mem.s (Mem.z)))))) | exact Mem.s (Mem.s (Mem.s (Mem.s (Mem.s (Mem.s (Mem.s (Mem.z))))))) | exact Mem.s (Mem.s (Mem.s (Mem.s (Mem.s (Mem.s (Mem.s (Mem.s (Mem.z)))))))) | exact Mem.s (Mem.s (Mem.s (Mem.s (Mem.s (Mem.s (Mem.s (Mem.s (Mem.s (Mem.z))))))))) | exact Mem.s (Mem.s (Mem.s (Mem.s (Mem.s (Mem.s (Mem.s (Mem.s (Mem.s (Mem.s (Mem.z)))))))))) | exact Mem.s (Mem.s (Mem.s (Mem.s (Mem.s (Mem.s (Mem.s (Mem.s (Mem.s (Mem.s (Mem.s (Mem.z))))))))))) | exact Mem.s (Mem.s (Mem.s (Mem.s (Mem.s (Mem.s (Mem.s (Mem.s (Mem.s (Mem.s (Mem.s (Mem.s (Mem.z)))))))))))) | exact Mem.s (Mem.s (Mem.s (Mem.s (Mem.s (Mem.s (Mem.s (Mem.s (Mem.s (Mem.s (Mem.s (Mem.s (Mem.s (Mem.z))))))))))))) | exact Mem.s (Mem.s (Mem.s (Mem.s (Mem.s (Mem.s (Mem.s (Mem.s (Mem.s (Mem.s (Mem.s (Mem.s (Mem.s (Mem.s (Mem.z)))))))))))))) | exact Mem.s (Mem.s (Mem.s (Mem.s (Mem.s (Mem.s (Mem.s (Mem.s (Mem.s (Mem.s (Mem.s (Mem.s (Mem.s (Mem.s (Mem.s (Mem.z))))))))))))))))) 0 rfl _ Try.underlying22 rfl _ rfl ?_)
    | (go_at_call 71; (with_reducible refine (heads30 _).mono ?_); rintro e w1 ⟨rfl, hn1⟩; replace hv := hv.new hn1; clear hn1))
  all_goals first
    | exact absurd HC.out (by assumption)
    | (go_ret
       exact ⟨rfl, hv.below⟩)
theorem InterpSums_any (w v : Nat) (k : Int) (hw : w < 18446744073709551616) (hv : v < 18446744073709551616) (wl : World) : Calls Try.prog 17 #[.int .u64 (w : Nat), .int .u64 (v : Nat), .int .i64 k] wl fun e w' => e = .returned (.bool true) ∧ New wl w' := by
  by_cases h : k < 0 ∨ 63 < k
  · exact Sums30_out w v k h wl
  · obtain ⟨n, rfl⟩ : ∃ n : Nat, k = (n : Nat) := ⟨k.toNat, by omega⟩
    by_cases h0 : v = 0
    · subst h0
      exact Sums30_zero w n hw (by omega) wl
    · exact Sums30_in w v n hw hv h0 (by omega) wl
end Go.Proofs.Ythpodinbbmgfoaa
