/-
  The walks of the reference of package page.
-/
import Derived.Test.YthpodinbbmgfoaaPgChk
set_option linter.unusedVariables false
namespace Go.Proofs.Ythpodinbbmgfoaa
open Go.Proofs.Pg Go.RowKit

set_option maxHeartbeats 1000000 in
theorem RTake_any (b : Nat → Bool) (q : Nat → Nat → Nat) (w : World) :
    Calls Try.prog 48 #[.agg (pg b q)] w fun e w' => e = .returned (.tuple #[.agg (pg (takeB b) (takeQ b q)), .int .i64 (takeN b), .int .i64 (takeE b)]) ∧ New w w' := by
  obtain ⟨W, hW⟩ : ∃ W : World, (w.alloc (.cells (pg b q) 36)).alloc (.cells Try.zeroCells36 36) = W := ⟨_, rfl⟩
  obtain ⟨f1, f2, f3, f4, f5, f6⟩ := two_blocks (w := w) (c := pg b q) (t := 36) (d := Try.zeroCells36) (u := 36) (Below.refl _ _)
  rw [hW] at f1 f2 f3 f4 f5 f6
  rw [zeroPs] at f3
  go_enter Try.func48, Try.ntmps48
  go_wp2
  go_loop [5] (fun i => ∃ k : Nat, k ≤ 16 ∧ i = .int .i64 k ∧ (∀ j, j < k → b j = true)) (fun i => 16 - (intOf i).toNat)
  case atStart => exact ⟨0, by omega, rfl, fun j h => by omega⟩
  case round =>
    obtain ⟨k, hk, rfl, hb⟩ := hrel
    have HB := Lib.hid hb; clear hb
    by_cases hk2 : k < 16
    · have hki : (k : Int) < 16 := by omega
      have hc : W.cell? ⟨w.heap.size, k * 9, none⟩ = some (.bool (b k)) := by rw [cell_rowD, f1, get_busy b q hk2]
      by_cases hbk : b k = true
      · go_wp2
        go_round
        case rel => exact ⟨k + 1, by omega, by go_num, fun j hj => by rcases Nat.lt_or_ge j k with g | g; · exact HB.out j g
                                                                      · rw [show j = k from by omega]; exact hbk⟩
        case measure => simp [intOf]; omega
      · replace hbk := b_false hbk
        have hff := ff_eq hk2 hbk HB.out
        have HF := Lib.hid hff; clear hff
        go_wp2_with (first
          | (refine st_page rfl _ _ rfl _ k true zeros8 rfl hk2 rfl _ _ f1 f2 ?_; intro w2 hw2)
          | (refine ld_pg rfl _ rfl _ rfl _ _ hw2.row ?_)
          | (refine st_pg rfl _ _ rfl _ _ _ rfl rfl _ _ (by rw [hw2.rowO (by omega)]; exact f3) (by rw [hw2.softO (by omega)]; exact f4) ?_; intro w3 hw3))
        refine ret_cell3 Try.results48 rfl (read_pg _ _ _ _ hw3.row) rfl rfl rfl ⟨?_, hw3.below (hw2.below f6 (by omega)) (by omega)⟩
        have hne : ¬ k = 16 := by omega
        unfold takeB takeQ takeN takeE
        rw [HF.out, if_neg hne, if_neg hne, if_neg hne, if_neg hne]; rfl
    · have hf : ff b = 16 := ff_none fun j hj => HB.out j (by omega)
      have HF := Lib.hid hf; clear hf
      go_wp2_with (first
        | (refine ld_pg rfl _ rfl _ rfl b q f1 ?_)
        | (refine st_pg rfl _ _ rfl _ b q rfl rfl _ _ f3 f4 ?_; intro w2 hw2))
      refine ret_cell3 Try.results48 rfl (read_pg _ _ _ _ hw2.row) rfl rfl rfl ⟨?_, hw2.below f6 (by omega)⟩
      simp [takeB, takeQ, takeN, takeE, HF.out]

set_option maxHeartbeats 2000000 in
theorem RFree_any (b : Nat → Bool) (q : Nat → Nat → Nat) (n : Int) (w : World) :
    Calls Try.prog 49 #[.agg (pg b q), .int .i64 n] w fun e w' => e = .returned (.tuple #[.agg (pg (freeB b n) (freeQ b q n)), .int .i64 (freeE b n)]) ∧ New w w' := by
  obtain ⟨W, hW⟩ : ∃ W : World, (w.alloc (.cells (pg b q) 36)).alloc (.cells Try.zeroCells36 36) = W := ⟨_, rfl⟩
  obtain ⟨f1, f2, f3, f4, f5, f6⟩ := two_blocks (w := w) (c := pg b q) (t := 36) (d := Try.zeroCells36) (u := 36) (Below.refl _ _)
  rw [hW] at f1 f2 f3 f4 f5 f6
  rw [zeroPs] at f3
  by_cases h1 : n < 0 ∨ 16 ≤ n
  · have hok : freeOk b n = false := by unfold freeOk; rcases h1 with h | h <;> simp <;> intros <;> omega
    have e1 : freeE b n = 2 := by unfold freeE; rw [if_pos h1]
    unfold freeB freeQ
    rw [hok, e1]
    simp only [Bool.false_eq_true, if_false]
    by_cases h2 : n < 0 <;> by_cases h3 : 16 ≤ n
    all_goals first
      | (exfalso; omega)
      | skip
    all_goals
      clear h1 hok e1
      go_enter Try.func49, Try.ntmps49
      go_wp2_with (first
        | (refine ld_pg rfl _ rfl _ rfl b q f1 ?_)
        | (refine st_pg rfl _ _ rfl _ b q rfl rfl _ _ f3 f4 ?_; intro w2 hw2))
      refine ret_cell2 Try.results49 rfl (read_pg _ _ _ _ hw2.row) rfl rfl ⟨rfl, hw2.below f6 (by omega)⟩

  · obtain ⟨k, rfl⟩ : ∃ k : Nat, n = k := ⟨n.toNat, by omega⟩
    have hk : k < 16 := by omega
    have hb : W.cell? ⟨w.heap.size, k * 9, none⟩ = some (.bool (b k)) := by rw [cell_rowD, f1, get_busy b q hk]
    have hk1 : ¬ (k : Int) < 0 := by omega
    have hk2 : ¬ (16 : Int) ≤ (k : Int) := by omega
    by_cases hbk : b k = true
    · have hok : freeOk b k = true := by unfold freeOk; simp [hbk]; omega
      have e1 : freeE b k = 0 := by unfold freeE; rw [if_neg h1]; simp [hbk]
      unfold freeB freeQ
      rw [hok, e1]
      simp only [if_true, Int.toNat_natCast]
      clear h1 hok e1
      go_enter Try.func49, Try.ntmps49
      go_wp2_with (first
        | (refine st_page rfl _ _ rfl _ k false zeros8 rfl hk rfl _ _ f1 f2 ?_; intro w2 hw2)
        | (refine ld_pg rfl _ rfl _ rfl _ _ hw2.row ?_)
        | (refine st_pg rfl _ _ rfl _ _ _ rfl rfl _ _ (by rw [hw2.rowO (by omega)]; exact f3) (by rw [hw2.softO (by omega)]; exact f4) ?_; intro w3 hw3))
      refine ret_cell2 Try.results49 rfl (read_pg _ _ _ _ hw3.row) rfl rfl ⟨rfl, hw3.below (hw2.below f6 (by omega)) (by omega)⟩
    · replace hbk := b_false hbk
      have hok : freeOk b k = false := by unfold freeOk; simp [hbk]
      have e1 : freeE b k = 150 := by unfold freeE; rw [if_neg h1]; simp [hbk]
      unfold freeB freeQ
      rw [hok, e1]
      simp only [Bool.false_eq_true, if_false]
      clear h1 hok e1
      go_enter Try.func49, Try.ntmps49
      go_wp2_with (first
        | (refine ld_pg rfl _ rfl _ rfl b q f1 ?_)
        | (refine st_pg rfl _ _ rfl _ b q rfl rfl _ _ f3 f4 ?_; intro w2 hw2))
      refine ret_cell2 Try.results49 rfl (read_pg _ _ _ _ hw2.row) rfl rfl ⟨rfl, hw2.below f6 (by omega)⟩



set_option maxRecDepth 20000 in
theorem Rthere_any (b : Nat → Bool) (q : Nat → Nat → Nat) (x : Nat) (w : World) :
    Calls Try.prog 94 #[.agg (pg b q), .int .u64 x] w fun e w' => e = .returned (.bool (okAt b x)) ∧ New w w' := by
  obtain ⟨W, hW⟩ : ∃ W : World, w.alloc (.cells (pg b q) 36) = W := ⟨_, rfl⟩
  obtain ⟨f1, f2, f5, f6⟩ := one_block (w := w) (c := pg b q) (t := 36) (Below.refl _ _)
  rw [hW] at f1 f2 f5 f6
  by_cases h1 : 128 ≤ x
  · have hok : okAt b x = false := by unfold okAt; simp; omega
    rw [hok]
    have h1i : ¬ (x : Int) < 128 := by omega
    have h1d : decide ((x : Int) < 128) = false := by simpa using h1i
    go_enter Try.func94, Try.ntmps94
    go_wp2
    go_ret
    exact ⟨rfl, f6⟩
  · have h1i : (x : Int) < 128 := by omega
    have hk : x / 8 < 16 := by omega
    have hok : okAt b x = b (x / 8) := by unfold okAt; simp; omega
    rw [hok]
    have hb : W.cell? ⟨w.heap.size, x / 8 * 9, none⟩ = some (.bool (b (x / 8))) := by rw [cell_rowD, f1, get_busy b q hk]
    go_enter Try.func94, Try.ntmps94
    go_wp2
    go_ret
    exact ⟨rfl, f6⟩

theorem RLoad_any (b : Nat → Bool) (q : Nat → Nat → Nat) (x : Nat) (w : World) :
    Calls Try.prog 53 #[.agg (pg b q), .int .u64 x] w fun e w' => e = .returned (.tuple #[.int .u64 (loadV b q x), .int .i64 (loadE b x)]) ∧ New w w' := by
  obtain ⟨W, hW⟩ : ∃ W : World, w.alloc (.cells (pg b q) 36) = W := ⟨_, rfl⟩
  obtain ⟨f1, f2, f5, f6⟩ := one_block (w := w) (c := pg b q) (t := 36) (Below.refl _ _)
  rw [hW] at f1 f2 f5 f6
  unfold loadV loadE
  have kt := fun w => Rthere_any b q x w
  by_cases hok : okAt b x = true
  · obtain ⟨g1, g2⟩ := okAt_lt hok
    have hx : x < 128 := by omega
    rw [hok] at kt
    rw [hok]
    simp only [if_true]
    go_enter Try.func53, Try.ntmps53
    go_wp2_with (first
      | (refine ld_pg rfl _ rfl _ rfl b q f1 ?_)
      | (go_at_call 94; refine (kt _).mono ?_; rintro e w1 ⟨rfl, hn1⟩; have hb : w1.cell? ⟨w.heap.size, x / 8 * 9 + 1 + x % 8, none⟩ = some (.int .u64 (q (x / 8) (x % 8))) := by rw [cell_rowD, hn1.row f5, f1, get_word b q g1 g2]))
    go_ret2
    exact ⟨rfl, Below.trans f6 (hn1.mono f6.size)⟩
  · replace hok := b_false hok
    rw [hok] at kt
    rw [hok]
    simp only [Bool.false_eq_true, if_false]
    go_enter Try.func53, Try.ntmps53
    go_wp2_with (first
      | (refine ld_pg rfl _ rfl _ rfl b q f1 ?_)
      | (go_at_call 94; refine (kt _).mono ?_; rintro e w1 ⟨rfl, hn1⟩))
    go_ret2
    exact ⟨rfl, Below.trans f6 (hn1.mono f6.size)⟩

set_option maxHeartbeats 1000000 in
theorem RStore_any (b : Nat → Bool) (q : Nat → Nat → Nat) (x v : Nat) (w : World) :
    Calls Try.prog 51 #[.agg (pg b q), .int .u64 x, .int .u64 v] w fun e w' => e = .returned (.tuple #[.agg (pg b (storeQ b q x v)), .int .i64 (loadE b x)]) ∧ New w w' := by
  obtain ⟨W, hW⟩ : ∃ W : World, (w.alloc (.cells (pg b q) 36)).alloc (.cells Try.zeroCells36 36) = W := ⟨_, rfl⟩
  obtain ⟨f1, f2, f3, f4, f5, f6⟩ := two_blocks (w := w) (c := pg b q) (t := 36) (d := Try.zeroCells36) (u := 36) (Below.refl _ _)
  rw [hW] at f1 f2 f3 f4 f5 f6
  rw [zeroPs] at f3
  unfold storeQ loadE
  have kt := fun w => Rthere_any b q x w
  have f7 : w.heap.size < W.heap.size := by omega
  by_cases hok : okAt b x = true
  · obtain ⟨g1, g2⟩ := okAt_lt hok
    rw [hok] at kt
    rw [hok]
    simp only [if_true]
    go_enter Try.func51, Try.ntmps51
    go_wp2_with (first
      | (refine ld_pg rfl _ rfl _ rfl b q f1 ?_)
      | (go_at_call 94; refine (kt _).mono ?_; rintro e w1 ⟨rfl, hn1⟩)
      | (refine wpList_store_cell rfl 22 _ _ rfl w.heap.size (x / 8 * 9 + 1 + x % 8) (.int .u64 v) rfl rfl info_word rfl (by rw [hn1.soft f7]; exact f2) (by rw [hn1.row f7, f1, size_pg]; omega) ?_; intro w2 hw2; rw [hn1.row f7, f1, set_pg b q g1 g2] at hw2)
      | (refine ld_pg rfl _ rfl _ rfl _ _ hw2.row ?_)
      | (refine st_pg rfl _ _ rfl _ _ _ rfl rfl _ _ (by rw [hw2.rowO (by omega), hn1.row f5]; exact f3) (by rw [hw2.softO (by omega), hn1.soft f5]; exact f4) ?_; intro w3 hw3))
    refine ret_cell2 Try.results51 rfl (read_pg _ _ _ _ hw3.row) rfl rfl ⟨rfl, hw3.below (hw2.below (Below.trans f6 (hn1.mono f6.size)) (by omega)) (by omega)⟩
  · replace hok := b_false hok
    rw [hok] at kt
    rw [hok]
    simp only [Bool.false_eq_true, if_false]
    go_enter Try.func51, Try.ntmps51
    go_wp2_with (first
      | (refine ld_pg rfl _ rfl _ rfl b q f1 ?_)
      | (go_at_call 94; refine (kt _).mono ?_; rintro e w1 ⟨rfl, hn1⟩)
      | (refine ld_pg rfl _ rfl _ rfl b q (by rw [hn1.row f7]; exact f1) ?_)
      | (refine st_pg rfl _ _ rfl _ _ _ rfl rfl _ _ (by rw [hn1.row f5]; exact f3) (by rw [hn1.soft f5]; exact f4) ?_; intro w3 hw3))
    refine ret_cell2 Try.results51 rfl (read_pg _ _ _ _ hw3.row) rfl rfl ⟨rfl, hw3.below (Below.trans f6 (hn1.mono f6.size)) (by omega)⟩

theorem RCount_any (b : Nat → Bool) (q : Nat → Nat → Nat) (w : World) :
    Calls Try.prog 54 #[.agg (pg b q)] w fun e w' => e = .returned (.int .i64 (cnt b)) ∧ New w w' := by
  obtain ⟨W, hW⟩ : ∃ W : World, w.alloc (.cells (pg b q) 36) = W := ⟨_, rfl⟩
  obtain ⟨f1, f2, f5, f6⟩ := one_block (w := w) (c := pg b q) (t := 36) (Below.refl _ _)
  rw [hW] at f1 f2 f5 f6
  go_enter Try.func54, Try.ntmps54
  go_wp2
  go_loop [3, 4] (fun n i => ∃ k : Nat, k ≤ 16 ∧ i = .int .i64 k ∧ n = .int .i64 (cntTo b k)) (fun _ i => 16 - (intOf i).toNat)
  case atStart => exact ⟨0, by omega, rfl, rfl⟩
  case round =>
    obtain ⟨k, hk, rfl, rfl⟩ := hrel
    have hc := cntTo_le b k
    by_cases hk2 : k < 16
    · have hki : (k : Int) < 16 := by omega
      have hcell : W.cell? ⟨w.heap.size, k * 9, none⟩ = some (.bool (b k)) := by rw [cell_rowD, f1, get_busy b q hk2]
      by_cases hbk : b k = true
      · go_wp2
        go_round
        case rel => exact ⟨k + 1, by omega, by go_num, by simp only [cntTo]; rw [hbk]; go_num⟩
        case measure => simp [intOf]; omega
      · replace hbk := b_false hbk
        go_wp2
        go_round
        case rel => exact ⟨k + 1, by omega, by go_num, by simp only [cntTo]; rw [hbk]; go_num⟩
        case measure => simp [intOf]; omega
    · have e : k = 16 := by omega
      subst e
      go_wp2
      go_ret
      exact ⟨rfl, f6⟩


theorem RCheck_any (b : Nat → Bool) (q : Nat → Nat → Nat) (w : World) :
    Calls Try.prog 56 #[.agg (pg b q)] w fun e w' => e = .returned (.bool (chk b q)) ∧ New w w' := by
  obtain ⟨W, hW⟩ : ∃ W : World, w.alloc (.cells (pg b q) 36) = W := ⟨_, rfl⟩
  obtain ⟨f1, f2, f5, f6⟩ := one_block (w := w) (c := pg b q) (t := 36) (Below.refl _ _)
  rw [hW] at f1 f2 f5 f6
  go_enter Try.func56, Try.ntmps56
  go_wp2
  go_loop [3] (fun i => ∃ k : Nat, k ≤ 16 ∧ i = .int .i64 k ∧ (∀ j, j < k → bad1 b q j = false)) (fun i => 16 - (intOf i).toNat)
  case atStart => exact ⟨0, by omega, rfl, fun j h => by omega⟩
  case round =>
    obtain ⟨k, hk, rfl, hb⟩ := hrel
    have HB := Lib.hid hb; clear hb
    by_cases hk2 : k < 16
    · have hki : (k : Int) < 16 := by omega
      have hcell : W.cell? ⟨w.heap.size, k * 9, none⟩ = some (.bool (b k)) := by rw [cell_rowD, f1, get_busy b q hk2]
      go_wp2
      go_loop [4] (fun i => ∃ m : Nat, m ≤ 8 ∧ i = .int .i64 m ∧ (∀ l, l < m → b k = true ∨ q k l = 0)) (fun i => 8 - (intOf i).toNat)
      case atStart => exact ⟨0, by omega, rfl, fun j h => by omega⟩
      case round =>
        obtain ⟨m, hm, rfl, hw⟩ := hrel
        have HW := Lib.hid hw; clear hw
        by_cases hm2 : m < 8
        · have hmi : (m : Int) < 8 := by omega
          have hcw : W.cell? ⟨w.heap.size, k * 9 + 1 + m, none⟩ = some (.int .u64 (q k m)) := by rw [cell_rowD, f1, get_word b q hk2 hm2]
          by_cases hbk : b k = true
          · go_wp2
            go_round
            case rel => exact ⟨m + 1, by omega, by go_num, fun l hl => .inl hbk⟩
            case measure => simp [intOf]; omega
          · replace hbk := b_false hbk
            by_cases hq : q k m = 0
            · have hq' : ((q k m : Int) == 0) = true := by rw [beq_iff_eq]; omega
              have HQ := Lib.hid hq; clear hq
              go_wp2
              go_round
              case rel => exact ⟨m + 1, by omega, by go_num, fun l hl => by rcases Nat.lt_or_ge l m with g | g; · exact HW.out l g
                                                                            · rw [show l = m from by omega]; exact .inr HQ.out⟩
              case measure => simp [intOf]; omega
            · have hq' : ((q k m : Int) == 0) = false := by rw [beq_eq_false_iff_ne]; omega
              have hz : chk b q = false := chk_false hk2 (by
                unfold bad1
                have : zero8 (q k) = false := zero8_not hm2 hq
                rw [hbk, this]; rfl)
              have HZ := Lib.hid hz; clear hz
              go_wp2
              go_ret
              exact ⟨ret_b HZ.out.symm, f6⟩
        · have hall : ∀ l, l < 8 → b k = true ∨ q k l = 0 := fun l hl => HW.out l (by omega)
          have hbad := bad1_none hall
          have HBD := Lib.hid hbad; clear hbad hall
          go_wp2
          go_round
          case rel => exact ⟨k + 1, by omega, by go_num, fun j hj => by rcases Nat.lt_or_ge j k with g | g; · exact HB.out j g
                                                                        · rw [show j = k from by omega]; exact HBD.out⟩
          case measure => simp [intOf]; omega
    · have hz : chk b q = true := chk_true fun j hj => HB.out j (by omega)
      have HZ := Lib.hid hz; clear hz
      go_wp2
      go_ret
      exact ⟨ret_b HZ.out.symm, f6⟩
end Go.Proofs.Ythpodinbbmgfoaa
