/-
  The walks of the reference of package page.
-/
import Derived.Test.YthpodinbbmgfoaaGreatPgChk
set_option linter.unusedSimpArgs false
set_option linter.unusedVariables false
namespace Go.Proofs.YthpodinbbmgfoaaGreat
open Go.Proofs.Pg Go.RowKit

set_option maxRecDepth 20000 in
theorem Rthere_any (b : Nat → Bool) (q : Nat → Nat → Nat) (x : Nat) (w : World) :
    Calls Tryz.prog 67 #[.agg (pg b q), .int .u64 x] w fun e w' => e = .returned (.bool (okAt b x)) ∧ New w w' := by
  obtain ⟨W, hW⟩ : ∃ W : World, w.alloc (.cells (pg b q) 32) = W := ⟨_, rfl⟩
  obtain ⟨f1, f2, f5, f6⟩ := one_block (w := w) (c := pg b q) (t := 32) (Below.refl _ _)
  rw [hW] at f1 f2 f5 f6
  by_cases h1 : 128 ≤ x
  · have hok : okAt b x = false := by unfold okAt; simp; omega
    rw [hok]
    have h1i : ¬ (x : Int) < 128 := by omega
    have h1d : decide ((x : Int) < 128) = false := by simpa using h1i
    go_enter Tryz.func67, Tryz.ntmps67
    go_wp2
    go_ret
    exact ⟨rfl, f6⟩
  · have h1i : (x : Int) < 128 := by omega
    have hk : x / 8 < 16 := by omega
    have hok : okAt b x = b (x / 8) := by unfold okAt; simp; omega
    rw [hok]
    have hb : W.cell? ⟨w.heap.size, x / 8 * 9, none⟩ = some (.bool (b (x / 8))) := by rw [cell_rowD, f1, get_busy b q hk]
    go_enter Tryz.func67, Tryz.ntmps67
    go_wp2
    go_ret
    exact ⟨rfl, f6⟩

theorem RLoad_any (b : Nat → Bool) (q : Nat → Nat → Nat) (x : Nat) (w : World) :
    Calls Tryz.prog 69 #[.agg (pg b q), .int .u64 x] w fun e w' => e = .returned (.tuple #[.int .u64 (loadV b q x), .int .i64 (loadE b x)]) ∧ New w w' := by
  obtain ⟨W, hW⟩ : ∃ W : World, w.alloc (.cells (pg b q) 32) = W := ⟨_, rfl⟩
  obtain ⟨f1, f2, f5, f6⟩ := one_block (w := w) (c := pg b q) (t := 32) (Below.refl _ _)
  rw [hW] at f1 f2 f5 f6
  unfold loadV loadE
  have kt := fun w => Rthere_any b q x w
  by_cases hok : okAt b x = true
  · obtain ⟨g1, g2⟩ := okAt_lt hok
    have hx : x < 128 := by omega
    rw [hok] at kt
    rw [hok]
    simp only [if_true]
    go_enter Tryz.func69, Tryz.ntmps69
    go_wp2_with (first
      | (refine ld_pg rfl _ rfl _ rfl b q f1 ?_)
      | (go_at_call 67; refine (kt _).mono ?_; rintro e w1 ⟨rfl, hn1⟩; have hb : w1.cell? ⟨w.heap.size, x / 8 * 9 + 1 + x % 8, none⟩ = some (.int .u64 (q (x / 8) (x % 8))) := by rw [cell_rowD, hn1.row f5, f1, get_word b q g1 g2]))
    go_ret2
    exact ⟨rfl, Below.trans f6 (hn1.mono f6.size)⟩
  · replace hok := b_false hok
    rw [hok] at kt
    rw [hok]
    simp only [Bool.false_eq_true, if_false]
    go_enter Tryz.func69, Tryz.ntmps69
    go_wp2_with (first
      | (refine ld_pg rfl _ rfl _ rfl b q f1 ?_)
      | (go_at_call 67; refine (kt _).mono ?_; rintro e w1 ⟨rfl, hn1⟩))
    go_ret2
    exact ⟨rfl, Below.trans f6 (hn1.mono f6.size)⟩

set_option maxHeartbeats 1000000 in
theorem RStore_any (b : Nat → Bool) (q : Nat → Nat → Nat) (x v : Nat) (w : World) :
    Calls Tryz.prog 32 #[.agg (pg b q), .int .u64 x, .int .u64 v] w fun e w' => e = .returned (.tuple #[.agg (pg b (storeQ b q x v)), .int .i64 (loadE b x)]) ∧ New w w' := by
  obtain ⟨W, hW⟩ : ∃ W : World, (w.alloc (.cells (pg b q) 32)).alloc (.cells Tryz.zeroCells32 32) = W := ⟨_, rfl⟩
  obtain ⟨f1, f2, f3, f4, f5, f6⟩ := two_blocks (w := w) (c := pg b q) (t := 32) (d := Tryz.zeroCells32) (u := 32) (Below.refl _ _)
  rw [hW] at f1 f2 f3 f4 f5 f6
  rw [zeroPs] at f3
  unfold storeQ loadE
  have kt := fun w => Rthere_any b q x w
  have f7 : w.heap.size < W.heap.size := by omega
  by_cases hok : okAt b x = true
  · obtain ⟨g1, g2⟩ := okAt_lt hok
    rw [hok] at kt
    rw [hok]
    simp only [if_true]
    go_enter Tryz.func32, Tryz.ntmps32
    go_wp2_with (first
      | (refine ld_pg rfl _ rfl _ rfl b q f1 ?_)
      | (go_at_call 67; refine (kt _).mono ?_; rintro e w1 ⟨rfl, hn1⟩)
      | (refine wpList_store_cell rfl 25 _ _ rfl w.heap.size (x / 8 * 9 + 1 + x % 8) (.int .u64 v) rfl rfl info_word rfl (by rw [hn1.soft f7]; exact f2) (by rw [hn1.row f7, f1, size_pg]; omega) ?_; intro w2 hw2; rw [hn1.row f7, f1, set_pg b q g1 g2] at hw2)
      | (refine ld_pg rfl _ rfl _ rfl _ _ hw2.row ?_)
      | (refine st_pg rfl _ _ rfl _ _ _ rfl rfl _ _ (by rw [hw2.rowO (by omega), hn1.row f5]; exact f3) (by rw [hw2.softO (by omega), hn1.soft f5]; exact f4) ?_; intro w3 hw3))
    refine ret_cell2 Tryz.results32 rfl (read_pg _ _ _ _ hw3.row) rfl rfl ⟨rfl, hw3.below (hw2.below (Below.trans f6 (hn1.mono f6.size)) (by omega)) (by omega)⟩
  · replace hok := b_false hok
    rw [hok] at kt
    rw [hok]
    simp only [Bool.false_eq_true, if_false]
    go_enter Tryz.func32, Tryz.ntmps32
    go_wp2_with (first
      | (refine ld_pg rfl _ rfl _ rfl b q f1 ?_)
      | (go_at_call 67; refine (kt _).mono ?_; rintro e w1 ⟨rfl, hn1⟩)
      | (refine ld_pg rfl _ rfl _ rfl b q (by rw [hn1.row f7]; exact f1) ?_)
      | (refine st_pg rfl _ _ rfl _ _ _ rfl rfl _ _ (by rw [hn1.row f5]; exact f3) (by rw [hn1.soft f5]; exact f4) ?_; intro w3 hw3))
    refine ret_cell2 Tryz.results32 rfl (read_pg _ _ _ _ hw3.row) rfl rfl ⟨rfl, hw3.below (Below.trans f6 (hn1.mono f6.size)) (by omega)⟩

end Go.Proofs.YthpodinbbmgfoaaGreat
