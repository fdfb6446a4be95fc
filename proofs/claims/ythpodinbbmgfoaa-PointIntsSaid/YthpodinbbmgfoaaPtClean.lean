/-
  The walk of the statement PointClean: whatever the two numbers, the call returns true.
-/
import Derived.Test.YthpodinbbmgfoaaPtSums
set_option linter.unusedVariables false
namespace Go.Proofs.Pt
theorem minF_comm (x y : Nat) : minF x y = minF y x := by
  unfold minF
  rw [Bool.or_comm, Nat.or_comm x y]
  by_cases h1 : ltF x y = true
  · rw [h1, ltF_asymm h1]; simp
  · have h1' : ltF x y = false := by simpa using h1
    rw [h1']; simp
theorem maxF_comm (x y : Nat) : maxF x y = maxF y x := by
  unfold maxF
  rw [Bool.or_comm, Nat.and_comm x y]
  by_cases h1 : ltF x y = true
  · rw [h1, ltF_asymm h1]; simp
  · have h1' : ltF x y = false := by simpa using h1
    rw [h1']; simp
theorem or_good {x y : Nat} (hx : isBad x = false) (hy : isBad y = false) (h1 : ltF x y = false) (h2 : ltF y x = false) : isBad (x ||| y) = false ∧ isBad (x &&& y) = false := by
  rw [ltF_ok hx hy] at h1
  rw [ltF_ok hy hx] at h2
  simp only [decide_eq_false_iff_not] at h1 h2
  have hr : rung x = rung y := by
    unfold place at h1 h2
    cases minus x <;> cases minus y <;> (try simp only [if_true, Bool.false_eq_true, if_false] at h1) <;> (try simp only [if_true, Bool.false_eq_true, if_false] at h2) <;> omega
  have ho := @Nat.or_mod_two_pow x y 63
  have ha := @Nat.and_mod_two_pow x y 63
  simp only [Nat.reducePow] at ho ha
  unfold rung at hr
  rw [hr, Nat.or_self] at ho
  rw [hr, Nat.and_self] at ha
  unfold isBad at *
  rw [ho, ha]; exact ⟨hy, hy⟩
theorem clean_minF (x y : Nat) : clean (minF x y) = minF x y := by
  unfold minF
  by_cases b : (isBad x || isBad y) = true
  · rw [if_pos b]; decide
  · rw [if_neg b]
    simp only [Bool.or_eq_true, not_or, Bool.not_eq_true] at b
    by_cases h1 : ltF x y = true
    · rw [if_pos h1]; exact clean_of_ok b.1
    · rw [if_neg h1]
      by_cases h2 : ltF y x = true
      · rw [if_pos h2]; exact clean_of_ok b.2
      · rw [if_neg h2]; exact clean_of_ok (or_good b.1 b.2 (by simpa using h1) (by simpa using h2)).1
theorem clean_maxF (x y : Nat) : clean (maxF x y) = maxF x y := by
  unfold maxF
  by_cases b : (isBad x || isBad y) = true
  · rw [if_pos b]; decide
  · rw [if_neg b]
    simp only [Bool.or_eq_true, not_or, Bool.not_eq_true] at b
    by_cases h1 : ltF y x = true
    · rw [if_pos h1]; exact clean_of_ok b.1
    · rw [if_neg h1]
      by_cases h2 : ltF x y = true
      · rw [if_pos h2]; exact clean_of_ok b.2
      · rw [if_neg h2]; exact clean_of_ok (or_good b.1 b.2 (by simpa using h2) (by simpa using h1)).2
theorem minF_lt {x y : Nat} (hx : x < 18446744073709551616) (hy : y < 18446744073709551616) : minF x y < 18446744073709551616 := by
  unfold minF
  have := Nat.or_lt_two_pow (n := 64) hx hy
  have := canon_lt
  split
  · assumption
  · split
    · assumption
    · split <;> assumption
theorem maxF_lt {x y : Nat} (hx : x < 18446744073709551616) (hy : y < 18446744073709551616) : maxF x y < 18446744073709551616 := by
  unfold maxF
  have := Nat.and_lt_two_pow (n := 64) x hy
  have := canon_lt
  split
  · assumption
  · split
    · assumption
    · split <;> assumption
end Go.Proofs.Pt
namespace Go.Proofs.Ythpodinbbmgfoaa
open Go.Proofs.Pt Go.RowKit

/-- The row of values, as a world holds it. -/
def Cells28 (w : World) (B : Nat) (L : List Nat) (wr : World) : Prop :=
  (∀ k, k < 9 → wr.cell? ⟨B, k, none⟩ = some (.int .u64 (L.getD k 0 : Nat))) ∧ Grown w wr
theorem Cells28.drewN {w : World} {B : Nat} {L : List Nat} {wr : World} (h : Cells28 w B L wr) (n : Nat) : Cells28 w B L (wr.drewN n) := h

set_option maxHeartbeats 2000000 in
theorem Clean28_nat (x y : Nat) (hx : x < 18446744073709551616) (hy : y < 18446744073709551616) (w : World) :
    Calls Try.prog 5 #[.int .u64 x, .int .u64 y] w fun e w' => e = .returned (.bool true) ∧ Grown w w' := by
  have k0 : ∀ w, Calls Try.prog 20 #[.int .u64 x, .int .u64 y] w (URes (opF .add x y) w) := fun w => Add_any x y hx hy w
  have k0b : ∀ w, Calls Try.prog 20 #[.int .u64 y, .int .u64 x] w (URes (opF .add x y) w) := fun w => URes_to (Add_any y x hy hx w) (add_comm y x)
  have k1 : ∀ w, Calls Try.prog 24 #[.int .u64 x, .int .u64 y] w (URes (opF .sub x y) w) := fun w => Sub_any x y hx hy w
  have k2 : ∀ w, Calls Try.prog 21 #[.int .u64 x, .int .u64 y] w (URes (opF .mul x y) w) := fun w => Mul_any x y hx hy w
  have k2b : ∀ w, Calls Try.prog 21 #[.int .u64 y, .int .u64 x] w (URes (opF .mul x y) w) := fun w => URes_to (Mul_any y x hy hx w) (mul_comm y x)
  have k3 : ∀ w, Calls Try.prog 22 #[.int .u64 x, .int .u64 y] w (URes (opF .quo x y) w) := fun w => Div_any x y hx hy w
  have k4 : ∀ w, Calls Try.prog 23 #[.int .u64 x] w fun e w' => e = .returned (.int .u64 (negF x : Nat)) ∧ w = w' := fun w => Neg_any x hx w
  have k5 : ∀ w, Calls Try.prog 32 #[.int .u64 x, .int .u64 y] w fun e w' => e = .returned (.int .u64 (minF x y : Nat)) ∧ w = w' := fun w => Min_any x y hx hy w
  have k5b : ∀ w, Calls Try.prog 32 #[.int .u64 y, .int .u64 x] w fun e w' => e = .returned (.int .u64 (minF x y : Nat)) ∧ w = w' := fun w => by rw [minF_comm]; exact Min_any y x hy hx w
  have k6 : ∀ w, Calls Try.prog 34 #[.int .u64 x, .int .u64 y] w fun e w' => e = .returned (.int .u64 (maxF x y : Nat)) ∧ w = w' := fun w => Max_any x y hx hy w
  have k6b : ∀ w, Calls Try.prog 34 #[.int .u64 y, .int .u64 x] w fun e w' => e = .returned (.int .u64 (maxF x y : Nat)) ∧ w = w' := fun w => by rw [maxF_comm]; exact Max_any y x hy hx w
  have k7 : ∀ w, Calls Try.prog 40 #[.int .u64 x] w fun e w' => e = .returned (.int .u64 (fromI (IntKind.i64.wrap x) : Nat)) ∧ w = w' := fun w => FromInt_any x hx w
  have k8 : ∀ w, Calls Try.prog 18 #[.int .u64 x] w fun e w' => e = .returned (.int .u64 (clean x : Nat)) ∧ w = w' := fun w => Clean_any x hx w
  have k9 : ∀ w, Calls Try.prog 23 #[.int .u64 y] w fun e w' => e = .returned (.int .u64 (negF y : Nat)) ∧ w = w' := fun w => Neg_any y hy w
  have k10 : ∀ w, Calls Try.prog 20 #[.int .u64 x, .int .u64 (negF y : Nat)] w (URes (opF .sub x y) w) := fun w => URes_to (Add_any x (negF y) hx (negF_lt hy) w) (sub_add_neg x y).symm
  have c0 : clean (opF .add x y) = opF .add x y := clean_opF _ _ _
  have l0 : opF .add x y < 18446744073709551616 := opF_lt _ _ _
  have c1 : clean (opF .sub x y) = opF .sub x y := clean_opF _ _ _
  have l1 : opF .sub x y < 18446744073709551616 := opF_lt _ _ _
  have c2 : clean (opF .mul x y) = opF .mul x y := clean_opF _ _ _
  have l2 : opF .mul x y < 18446744073709551616 := opF_lt _ _ _
  have c3 : clean (opF .quo x y) = opF .quo x y := clean_opF _ _ _
  have l3 : opF .quo x y < 18446744073709551616 := opF_lt _ _ _
  have c4 : clean (negF x) = negF x := clean_negF _
  have l4 : negF x < 18446744073709551616 := negF_lt hx
  have c5 : clean (minF x y) = minF x y := clean_minF _ _
  have l5 : minF x y < 18446744073709551616 := minF_lt hx hy
  have c6 : clean (maxF x y) = maxF x y := clean_maxF _ _
  have l6 : maxF x y < 18446744073709551616 := maxF_lt hx hy
  have c7 : clean (fromI (IntKind.i64.wrap x)) = fromI (IntKind.i64.wrap x) := clean_of_ok (fromI_good _)
  have l7 : fromI (IntKind.i64.wrap x) < 18446744073709551616 := fromI_lt _
  have c8 : clean (clean x) = clean x := clean_clean _
  have l8 : clean x < 18446744073709551616 := clean_lt hx
  generalize opF .add x y = v0 at *
  generalize opF .sub x y = v1 at *
  generalize opF .mul x y = v2 at *
  generalize opF .quo x y = v3 at *
  generalize negF x = v4 at *
  generalize minF x y = v5 at *
  generalize maxF x y = v6 at *
  generalize fromI (IntKind.i64.wrap x) = v7 at *
  generalize clean x = v8 at *
  generalize negF y = vy at *
  have hall : ∀ k, k < 9 → (clean ([v0, v1, v2, v3, v4, v5, v6, v7, v8].getD k 0) = [v0, v1, v2, v3, v4, v5, v6, v7, v8].getD k 0 ∧ [v0, v1, v2, v3, v4, v5, v6, v7, v8].getD k 0 < 18446744073709551616) := by
    intro k hk
    match k, hk with
    | 0, _ => exact ⟨c0, l0⟩
    | 1, _ => exact ⟨c1, l1⟩
    | 2, _ => exact ⟨c2, l2⟩
    | 3, _ => exact ⟨c3, l3⟩
    | 4, _ => exact ⟨c4, l4⟩
    | 5, _ => exact ⟨c5, l5⟩
    | 6, _ => exact ⟨c6, l6⟩
    | 7, _ => exact ⟨c7, l7⟩
    | 8, _ => exact ⟨c8, l8⟩
  clear c0 c1 c2 c3 c4 c5 c6 c7 c8 l0 l1 l2 l3 l4 l5 l6 l7 l8
  have HA := Lib.hid hall; clear hall
  go_enter Try.func5, Try.ntmps5
  go_wp2_with fail; refine (k0 _).mono ?_; rintro e w' ⟨n0, rfl, rfl⟩
  go_wp2_with fail; refine (k1 _).mono ?_; rintro e w' ⟨n1, rfl, rfl⟩
  go_wp2_with fail; refine (k2 _).mono ?_; rintro e w' ⟨n2, rfl, rfl⟩
  go_wp2_with fail; refine (k3 _).mono ?_; rintro e w' ⟨n3, rfl, rfl⟩
  go_wp2_with fail; refine (k4 _).mono ?_; rintro e w' ⟨rfl, rfl⟩
  go_wp2_with fail; refine (k5 _).mono ?_; rintro e w' ⟨rfl, rfl⟩
  go_wp2_with fail; refine (k6 _).mono ?_; rintro e w' ⟨rfl, rfl⟩
  go_wp2_with fail; refine (k7 _).mono ?_; rintro e w' ⟨rfl, rfl⟩
  go_wp2_with fail; refine (k8 _).mono ?_; rintro e w' ⟨rfl, rfl⟩
  go_wp2_with fail
  obtain ⟨W0, hW0, hcell, hG⟩ : ∃ W0 : World, W0 = (w.drewN (n0 + n1 + n2 + n3)).alloc (.cells #[.int .u64 v0, .int .u64 v1, .int .u64 v2, .int .u64 v3, .int .u64 v4, .int .u64 v5, .int .u64 v6, .int .u64 v7, .int .u64 v8] 22) ∧ (∀ k, k < 9 → W0.cell? ⟨w.heap.size, k, none⟩ = some (.int .u64 ([v0, v1, v2, v3, v4, v5, v6, v7, v8].getD k 0 : Nat))) ∧ Grown w W0 := by
    refine ⟨_, rfl, ?_, (grown_drewN w _).alloc _ _⟩
    intro k hk
    refine (cell_new (w.drewN (n0 + n1 + n2 + n3)) _ _ k).trans ?_
    match k, hk with
    | 0, _ => rfl
    | 1, _ => rfl
    | 2, _ => rfl
    | 3, _ => rfl
    | 4, _ => rfl
    | 5, _ => rfl
    | 6, _ => rfl
    | 7, _ => rfl
    | 8, _ => rfl
  rw [← hW0]
  clear hW0
  generalize hL : [v0, v1, v2, v3, v4, v5, v6, v7, v8] = L at HA hcell
  clear hL
  generalize w.heap.size = B at *
  have HC : Cells28 w B L W0 := ⟨hcell, hG⟩
  clear hcell hG
  go_loopw [6] (fun i wr => ∃ k : Nat, k ≤ 9 ∧ i = .int .i64 k ∧ Cells28 w B L wr) (fun i _ => 9 - (intOf i).toNat)
  case atStart => exact ⟨0, by omega, rfl, HC⟩
  case round =>
    obtain ⟨k, hk, rfl, hcw⟩ := hrel
    clear HC
    rename_i wr
    by_cases hlt : k < 9
    · have hv := hcw.1 k hlt
      obtain ⟨hc, hl⟩ := HA.out k hlt
      generalize L.getD k 0 = v at *
      have hm := u64_mask v hl
      change bits .andNot .u64 (v : Int) 9223372036854775808 = ((rung v : Nat) : Int) at hm
      have kc : ∀ w, Calls Try.prog 18 #[.int .u64 v] w (fun e w' => e = .returned (.int .u64 v) ∧ w = w') := fun w => by have := Clean_any v hl w; rw [hc] at this; exact this
      have hd : decide ((9218868437227405312 : Int) < (rung v : Int)) = isBad v := by unfold isBad rung; rw [decide_eq_decide]; omega
      have hki : (k : Int) < 9 := by omega
      have hki0 : (0 : Int) ≤ (k : Int) := by omega
      by_cases b : isBad v = true
      · rw [b] at hd
        have e : v = canon := by rcases clean_one hc with g | g; · rw [b] at g; cases g
                                 · exact g
        subst e
        rw [show rung canon = 9221120237041090560 from by decide] at hm hd
        simp only [canon, Int.cast_ofNat_Int] at *
        have kn : ∀ w, Calls Try.prog 19 #[] w (fun e w' => e = .returned (.int .u64 9221120237041090560) ∧ w = w') := fun w => Nan_any w
        clear hd hl
        go_wp2_with fail
        go_quiet ((first | (go_at_call 18; exact Calls.quiet_of_same (calls_same (kc _))) | (go_at_call 19; exact Calls.quiet_of_same (calls_same (kn _)))))
        go_wp2
        go_roundw
        case rel => exact ⟨k + 1, by omega, by go_num, hcw.drewN _⟩
        case measure => simp [intOf]; omega
      · replace b := b_false b
        rw [b] at hd
        go_wp2_with fail
        go_quiet ((go_at_call 18; exact Calls.quiet_of_same (calls_same (kc _))))
        go_wp2
        go_roundw
        case rel => exact ⟨k + 1, by omega, by go_num, hcw.drewN _⟩
        case measure => simp [intOf]; omega
    · have hki : ¬ (k : Int) < 9 := by omega
      go_wp2_with fail; refine (k0 _).mono ?_; rintro e w' ⟨m0, rfl, rfl⟩
      go_wp2_with fail; refine (k0b _).mono ?_; rintro e w' ⟨m1, rfl, rfl⟩
      go_wp2_with fail; refine (k2 _).mono ?_; rintro e w' ⟨m2, rfl, rfl⟩
      go_wp2_with fail; refine (k2b _).mono ?_; rintro e w' ⟨m3, rfl, rfl⟩
      go_wp2_with fail; refine (k5 _).mono ?_; rintro e w' ⟨rfl, rfl⟩
      go_wp2_with fail; refine (k5b _).mono ?_; rintro e w' ⟨rfl, rfl⟩
      go_wp2_with fail; refine (k6 _).mono ?_; rintro e w' ⟨rfl, rfl⟩
      go_wp2_with fail; refine (k6b _).mono ?_; rintro e w' ⟨rfl, rfl⟩
      go_wp2_with fail; refine (k1 _).mono ?_; rintro e w' ⟨m4, rfl, rfl⟩
      go_wp2_with fail; refine (k9 _).mono ?_; rintro e w' ⟨rfl, rfl⟩
      go_wp2_with fail; refine (k10 _).mono ?_; rintro e w' ⟨m5, rfl, rfl⟩
      go_wp2_with fail; refine (heads28 _).mono ?_; rintro e w' ⟨rfl, m6, rfl⟩
      go_wp2
      go_ret
      exact ⟨rfl, hcw.2⟩
theorem PointClean_walk (a0 a1 : Int) (w0 : (Lit.int .u64 a0).wf = true) (w1 : (Lit.int .u64 a1).wf = true) (w : World) :
    Calls Try.prog 5 #[.int .u64 a0, .int .u64 a1] w fun e w' => e = .returned (.bool true) ∧ Grown w w' := by
  obtain ⟨x, rfl, hx⟩ := u64_nat w0
  obtain ⟨y, rfl, hy⟩ := u64_nat w1
  exact Clean28_nat x y hx hy w
end Go.Proofs.Ythpodinbbmgfoaa
