/-
  The walks of the reference's Check, and arg.
-/
import Derived.Test.YthpodinbbmgfoaaGreatCdChk
set_option linter.unusedSimpArgs false
set_option linter.unusedVariables false
namespace Go.Proofs.YthpodinbbmgfoaaGreat
open Go.Proofs.Cd Go.RowKit

theorem arg_any (op : Int) (arg n : Nat) (w : World) (hn : n ≤ 128) (ha : arg < 18446744073709551616) : Calls Tryz.prog 31 #[.agg #[.int .i64 op, .int .u64 arg], .int .i64 n] w fun e w' => e = .returned (.bool (decide (arg < bel op n))) ∧ New w w' := by
  have HA := Lib.hid ha; clear ha
  unfold bel
  by_cases h1 : op = 1 <;> by_cases h2 : op = 20 <;> by_cases h3 : op = 21 <;> by_cases h4 : op = 22 <;> by_cases h5 : op = 5 <;> by_cases h6 : op = 37
  all_goals first
    | (exfalso; omega)
    | skip
  all_goals try subst op
  all_goals
    go_enter Tryz.func31, Tryz.ntmps31
    go_wp2
    go_ret
    refine ⟨ret_b ?_, (Below.refl _ _).alloc (Nat.le_refl _) _⟩
    have := HA.out
    first
      | rfl
      | (rw [Bool.eq_iff_iff]; simp [*]; done)
      | (rw [Bool.eq_iff_iff]; simp [*]; omega)
theorem RCheck_any (v : Value) (l : List Inst) (w : World) (hrd : Rd w 2 v (cellsI l)) (hg : ∀ x ∈ l, goodI x) :
    Calls Tryz.prog 17 #[v] w fun e w' => e = .returned (.bool (Cd.chk l)) ∧ New w w' := by
  obtain ⟨ao, n, cap, rfl, h1, h2, h3, h4, h5⟩ := id hrd
  rw [len_cellsI] at h1
  have HL : Hid (l.length = n) := Lib.hid (by omega)
  have hm : n ≤ 9223372036854775807 := by unfold maxLen at h3; omega
  clear h1 h2 h3 h4 h5
  by_cases hn1 : n < 1
  · have hn1i : (n : Int) < 1 := by omega
    rw [chk_short (by have := HL.out; omega)]
    go_enter Tryz.func17, Tryz.ntmps17
    go_wp2
    go_ret
    exact ⟨rfl, Below.refl _ _⟩
  by_cases hn2 : 128 < n
  · have hn2i : (128 : Int) < (n : Int) := by omega
    have hn1i : ¬ (n : Int) < 1 := by omega
    rw [chk_long (by have := HL.out; omega)]
    go_enter Tryz.func17, Tryz.ntmps17
    go_wp2
    go_ret
    exact ⟨rfl, Below.refl _ _⟩
  have hn2i : ¬ (128 : Int) < (n : Int) := by omega
  have hn1i : ¬ (n : Int) < 1 := by omega
  obtain ⟨b, o, n', cap', e, _, _, _, hb, hc⟩ := hrd.some (by rw [len_cellsI, HL.out]; omega)
  cases e
  have hlast : w.cell? ⟨b, o + (n - 1) * 2, none⟩ = some (.int .i64 (l.getD (n - 1) (1, 0)).1) := by
    rw [hc _ (by rw [len_cellsI, HL.out]; omega), get_op l (by rw [HL.out]; omega)]
    simp [List.getD, List.getElem?_eq_getElem (show n - 1 < l.length by rw [HL.out]; omega)]
  have HC := Lib.hid hc; clear hc
  have HG := Lib.hid hg; clear hg
  generalize hz : (l.getD (n - 1) (1, 0)).1 = z at *
  have HZ := Lib.hid hz; clear hz
  clear hrd
  have HLAST := Lib.hid hlast; clear hlast
  go_enter Tryz.func17, Tryz.ntmps17
  go_wp2
  go_loopw [4] (fun i wr => ∃ k : Nat, k ≤ n ∧ i = .int .i64 k ∧ Hid (∀ j, j < k → okI n (l.getD j (1, 0)) = true) ∧ New w wr) (fun i _ => n - (intOf i).toNat)
  case atStart => exact ⟨0, by omega, rfl, Lib.hid fun j h => by omega, Below.refl _ _⟩
  case round =>
    obtain ⟨k, hk, rfl, hok, hn1⟩ := hrel
    rename_i wr
    by_cases hk2 : k < n
    · have hki : (k : Int) < (n : Int) := by omega
      obtain ⟨op, arg, hx⟩ : ∃ op arg, l.getD k (1, 0) = (op, arg) := ⟨_, _, rfl⟩
      have hkl : k < l.length := by rw [HL.out]; exact hk2
      have hx' : l[k] = (op, arg) := by rw [← hx]; simp [List.getD, List.getElem?_eq_getElem hkl]
      obtain ⟨g1, g2, g3⟩ := HG.out l[k] (List.getElem_mem hkl)
      rw [hx'] at g1 g2 g3
      have c0 : wr.cell? ⟨b, o + k * 2, none⟩ = some (.int .i64 op) := by rw [hn1.cell (p := ⟨b, o + k * 2, none⟩) hb, HC.out _ (by rw [len_cellsI, HL.out]; omega), get_op l hkl, hx']
      have c1 : wr.cell? ⟨b, o + k * 2 + 1, none⟩ = some (.int .u64 arg) := by rw [hn1.cell (p := ⟨b, o + k * 2 + 1, none⟩) hb, Nat.add_assoc, HC.out _ (by rw [len_cellsI, HL.out]; omega), get_arg l hkl, hx']
      have HX := Lib.hid hx; clear hx hx'
      dsimp only at g1 g2 g3
      have kA : ∀ w, Calls Tryz.prog 31 #[.agg #[.int .i64 op, .int .u64 arg], .int .i64 n] w fun e w' => e = .returned (.bool (decide (arg < bel op n))) ∧ New w w' := fun w => arg_any op arg n w (by omega) g3
      clear g1 g2 g3
      have bad : okI n (op, arg) = false → Cd.chk l = false := fun h => chk_one hkl (by
        have := HX.out; simp only [List.getD, List.getElem?_eq_getElem hkl, Option.getD_some] at this; rw [this, HL.out]; exact h)
      have BAD := Lib.hid bad; clear bad
      have good : okI n (op, arg) = true → ∀ j, j < k + 1 → okI n (l.getD j (1, 0)) = true := fun h j hj => by
        rcases Nat.lt_or_ge j k with g | g
        · exact hok.out j g
        · rw [show j = k from by omega, HX.out]; exact h
      have GOOD := Lib.hid good; clear good
      by_cases a1 : op < 0
      · go_wp2
        go_ret
        exact ⟨ret_b (BAD.out (by unfold okI; rw [decide_eq_false (by dsimp only; omega)]; rfl)).symm, hn1⟩
      by_cases a2 : 37 < op
      · go_wp2
        go_ret
        exact ⟨ret_b (BAD.out (by unfold okI; rw [decide_eq_false (p := op ≤ 37) (by omega)]; simp)).symm, hn1⟩
      generalize hm : decide (arg < bel op n) = m at *
      have HM := Lib.hid hm; clear hm
      cases m
      · go_wp2_with (go_at_call 31; refine (kA _).mono ?_; rintro e w2 ⟨rfl, hn2⟩)
        go_ret
        exact ⟨ret_b (BAD.out (by unfold okI; rw [HM.out]; simp)).symm, hn1.to hn2⟩
      · go_wp2_with (go_at_call 31; refine (kA _).mono ?_; rintro e w2 ⟨rfl, hn2⟩)
        go_roundw
        case rel => exact ⟨k + 1, by omega, by go_num, Lib.hid (GOOD.out (by unfold okI; rw [HM.out, decide_eq_true (by dsimp only; omega), decide_eq_true (by dsimp only; omega)]; rfl)), hn1.to hn2⟩
        case measure => simp [intOf]; omega
    · have hki : ¬ (k : Int) < (n : Int) := by omega
      have hlast : wr.cell? ⟨b, o + (n - 1) * 2, none⟩ = some (.int .i64 z) := by rw [hn1.cell (p := ⟨b, o + (n - 1) * 2, none⟩) hb]; exact HLAST.out
      have fin : Cd.chk l = isEnd z := by
        by_cases he : isEnd z = true
        · rw [he]
          refine chk_of (by rw [HL.out]; omega) (by rw [HL.out]; omega) (by rw [HL.out, HZ.out]; exact he) (fun i hi => ?_)
          have := hok.out i (by have := HL.out; omega)
          rw [HL.out]
          simpa only [List.getD, List.getElem?_eq_getElem hi, Option.getD_some] using this
        · replace he := b_false he
          rw [he, chk_end (by rw [HL.out, HZ.out]; exact he)]
      have FIN := Lib.hid fin; clear fin
      by_cases z0 : z = 0
      · go_wp2
        go_ret
        refine ⟨ret_b ?_, hn1⟩
        rw [FIN.out, z0]; rfl
      by_cases z1 : z = 20
      · go_wp2
        go_ret
        refine ⟨ret_b ?_, hn1⟩
        rw [FIN.out, z1]; rfl
      by_cases z2 : z = 23
      · go_wp2
        go_ret
        refine ⟨ret_b ?_, hn1⟩
        rw [FIN.out, z2]; rfl
      go_wp2
      go_ret
      refine ⟨ret_b ?_, hn1⟩
      rw [FIN.out]; unfold isEnd; simp [*]
end Go.Proofs.YthpodinbbmgfoaaGreat
