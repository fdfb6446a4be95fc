/-
  The walks of package page, second part.
-/
import Derived.Test.YthpodinbbmgfoaaGreatPgWalk
set_option linter.unusedSimpArgs false
set_option linter.unusedVariables false
namespace Go.Proofs.YthpodinbbmgfoaaGreat
open Go.Proofs.Pg Go.RowKit

section
variable {ops : Array Oper} {rest : List Oper} {op : Oper} {a : Act} {w : World} {Q : Exit → Act → World → Prop}
/-! Whole rows of pages, and single pages, out of a block and into it. -/
theorem ld_pg (hgd : Region.wanted op (yielded ops a.tmps) = true) (x : Operand) (ho : op.op = .load 32 x) (B : Nat) (hx : a.eval x = .pointer (some ⟨B, 0, none⟩)) (b : Nat → Bool) (q : Nat → Nat → Nat) (hr : w.rowD B = pg b q)
    (h : wpList Tryz.prog ops Q rest (a.put op.dst (.agg (pg b q))) w) : wpList Tryz.prog ops Q (op :: rest) a w := by
  refine wpList_load_any hgd 32 x ho B 0 hx 144 _ Tryz.underlying32 rfl infoPs (by decide) (by rw [hr, size_pg]; omega) ?_
  rw [hr, extract_all _ (size_pg _ _)]; exact h
theorem st_pg (hgd : Region.wanted op (yielded ops a.tmps) = true) (x y : Operand) (ho : op.op = .store 32 x y) (B : Nat) (b : Nat → Bool) (q : Nat → Nat → Nat) (hx : a.eval x = .pointer (some ⟨B, 0, none⟩)) (hy : a.eval y = .agg (pg b q)) (b0 : Nat → Bool) (q0 : Nat → Nat → Nat) (hr : w.rowD B = pg b0 q0) (hs : w.soft B = true)
    (h : ∀ w', Wrote w w' B (pg b q) → wpList Tryz.prog ops Q rest (a.put op.dst undef) w') : wpList Tryz.prog ops Q (op :: rest) a w := by
  refine wpList_store_agg hgd 32 x y ho B 0 _ hx hy 144 infoPs (size_pg _ _) (one_pg _ _) hs (by rw [hr, size_pg]; omega) ?_
  intro w' hw; refine h w' ?_
  rw [hr, splice_all _ _ (by rw [size_pg, size_pg])] at hw; exact hw
theorem ld_page (hgd : Region.wanted op (yielded ops a.tmps) = true) (x : Operand) (ho : op.op = .load 31 x) (B i : Nat) (hx : a.eval x = .pointer (some ⟨B, i * 9, none⟩)) (hi : i < 16) (b : Nat → Bool) (q : Nat → Nat → Nat) (hr : w.rowD B = pg b q)
    (h : wpList Tryz.prog ops Q rest (a.put op.dst (.agg (pg1 (b i) (q i)))) w) : wpList Tryz.prog ops Q (op :: rest) a w := by
  refine wpList_load_any hgd 31 x ho B (i * 9) hx 9 _ Tryz.underlying31 rfl infoP (by decide) (by rw [hr, size_pg]; omega) ?_
  rw [hr, extract_pg _ _ hi]; exact h
theorem st_page (hgd : Region.wanted op (yielded ops a.tmps) = true) (x y : Operand) (ho : op.op = .store 31 x y) (B i : Nat) (b' : Bool) (q' : Nat → Nat) (hx : a.eval x = .pointer (some ⟨B, i * 9, none⟩)) (hi : i < 16) (hy : a.eval y = .agg (pg1 b' q')) (b : Nat → Bool) (q : Nat → Nat → Nat) (hr : w.rowD B = pg b q) (hs : w.soft B = true)
    (h : ∀ w', Wrote w w' B (pg (upd b i b') (upd q i q')) → wpList Tryz.prog ops Q rest (a.put op.dst undef) w') : wpList Tryz.prog ops Q (op :: rest) a w := by
  refine wpList_store_agg hgd 31 x y ho B (i * 9) _ hx hy 9 infoP rfl (one_pg1 _ _) hs (by rw [hr, size_pg]; omega) ?_
  intro w' hw; refine h w' ?_
  rw [hr, splice_pg _ _ hi] at hw; exact hw
end


theorem word_any (B : Nat) (b : Nat → Bool) (q : Nat → Nat → Nat) (x : Nat) (w : World) (hr : w.rowD B = pg b q) :
    Calls Tryz.prog 90 #[.pointer (some ⟨B, 0, none⟩), .int .u64 x] w fun e w' => e = .returned (.tuple #[if okAt b x then .pointer (some ⟨B, x / 8 * 9 + 1 + x % 8, none⟩) else .pointer none, .int .i64 (loadE b x)]) ∧ w = w' := by
  by_cases h1 : 128 ≤ x
  · have hok : okAt b x = false := by unfold okAt; simp; omega
    unfold loadE
    rw [hok]
    simp only [Bool.false_eq_true, if_false]
    have h1i : (128 : Int) ≤ (x : Int) := by omega
    go_enter Tryz.func90, Tryz.ntmps90
    go_wp2
    go_ret2
    exact ⟨rfl, rfl⟩
  · have h1i : ¬ (128 : Int) ≤ (x : Int) := by omega
    have hk : x / 8 < 16 := by omega
    have hb : w.cell? ⟨B, x / 8 * 9, none⟩ = some (.bool (b (x / 8))) := by rw [cell_rowD, hr, get_busy b q hk]
    by_cases hbk : b (x / 8) = true
    · have hok : okAt b x = true := by unfold okAt; simp [hbk]; omega
      unfold loadE
      rw [hok]
      simp only [if_true]
      go_enter Tryz.func90, Tryz.ntmps90
      go_wp2
      go_ret2
      exact ⟨rfl, rfl⟩
    · replace hbk := b_false hbk
      have hok : okAt b x = false := by unfold okAt; simp [hbk]
      unfold loadE
      rw [hok]
      simp only [Bool.false_eq_true, if_false]
      go_enter Tryz.func90, Tryz.ntmps90
      go_wp2
      go_ret2
      exact ⟨rfl, rfl⟩


theorem word_ok {B : Nat} {b : Nat → Bool} {q : Nat → Nat → Nat} {x : Nat} {w : World} (hr : w.rowD B = pg b q) (h : okAt b x = true) :
    Calls Tryz.prog 90 #[.pointer (some ⟨B, 0, none⟩), .int .u64 x] w fun e w' => e = .returned (.tuple #[.pointer (some ⟨B, x / 8 * 9 + 1 + x % 8, none⟩), .int .i64 0]) ∧ w = w' := by
  have := word_any B b q x w hr
  unfold loadE at this
  rw [h] at this; exact this
theorem word_no {B : Nat} {b : Nat → Bool} {q : Nat → Nat → Nat} {x : Nat} {w : World} (hr : w.rowD B = pg b q) (h : okAt b x = false) :
    Calls Tryz.prog 90 #[.pointer (some ⟨B, 0, none⟩), .int .u64 x] w fun e w' => e = .returned (.tuple #[.pointer none, .int .i64 150]) ∧ w = w' := by
  have := word_any B b q x w hr
  unfold loadE at this
  rw [h] at this; exact this
theorem okAt_lt {b : Nat → Bool} {x : Nat} (h : okAt b x = true) : x / 8 < 16 ∧ x % 8 < 8 := by
  unfold okAt at h
  simp only [Bool.and_eq_true, decide_eq_true_eq] at h
  omega

theorem Load_any (b : Nat → Bool) (q : Nat → Nat → Nat) (x : Nat) (w : World) :
    Calls Tryz.prog 65 #[.agg (pg b q), .int .u64 x] w fun e w' => e = .returned (.tuple #[.int .u64 (loadV b q x), .int .i64 (loadE b x)]) ∧ New w w' := by
  obtain ⟨W, hW⟩ : ∃ W : World, w.alloc (.cells (pg b q) 32) = W := ⟨_, rfl⟩
  obtain ⟨f1, f2, f5, f6⟩ := one_block (w := w) (c := pg b q) (t := 32) (Below.refl _ _)
  rw [hW] at f1 f2 f5 f6
  unfold loadV loadE
  by_cases hok : okAt b x = true
  · have hb : W.cell? ⟨w.heap.size, x / 8 * 9 + 1 + x % 8, none⟩ = some (.int .u64 (q (x / 8) (x % 8))) := by rw [cell_rowD, f1, get_word b q (okAt_lt hok).1 (okAt_lt hok).2]
    rw [hok]
    simp only [if_true]
    go_enter Tryz.func65, Tryz.ntmps65
    go_wp2_with (go_at_call 90; refine (word_ok f1 hok).mono ?_; rintro e w1 ⟨rfl, rfl⟩)
    go_ret2
    exact ⟨rfl, f6⟩
  · replace hok := b_false hok
    rw [hok]
    simp only [Bool.false_eq_true, if_false]
    go_enter Tryz.func65, Tryz.ntmps65
    go_wp2_with (go_at_call 90; refine (word_no f1 hok).mono ?_; rintro e w1 ⟨rfl, rfl⟩)
    go_ret2
    exact ⟨rfl, f6⟩

theorem info_word : (Tryz.prog.info? 25).map (·.size) = some 1 := by kernel_rfl
set_option maxHeartbeats 1000000 in
theorem Store_any (b : Nat → Bool) (q : Nat → Nat → Nat) (x v : Nat) (w : World) :
    Calls Tryz.prog 66 #[.agg (pg b q), .int .u64 x, .int .u64 v] w fun e w' => e = .returned (.tuple #[.agg (pg b (storeQ b q x v)), .int .i64 (loadE b x)]) ∧ New w w' := by
  obtain ⟨W, hW⟩ : ∃ W : World, (w.alloc (.cells (pg b q) 32)).alloc (.cells Tryz.zeroCells32 32) = W := ⟨_, rfl⟩
  obtain ⟨f1, f2, f3, f4, f5, f6⟩ := two_blocks (w := w) (c := pg b q) (t := 32) (d := Tryz.zeroCells32) (u := 32) (Below.refl _ _)
  rw [hW] at f1 f2 f3 f4 f5 f6
  rw [zeroPs] at f3
  unfold storeQ loadE
  by_cases hok : okAt b x = true
  · obtain ⟨g1, g2⟩ := okAt_lt hok
    rw [hok]
    simp only [if_true]
    have G1 := Lib.hid g1; clear g1
    have G2 := Lib.hid g2; clear g2
    go_enter Tryz.func66, Tryz.ntmps66
    go_wp2_with (first
      | (go_at_call 90; refine (word_ok f1 hok).mono ?_; rintro e w1 ⟨rfl, rfl⟩)
      | (refine wpList_store_cell rfl 25 _ _ rfl w.heap.size (x / 8 * 9 + 1 + x % 8) (.int .u64 v) rfl rfl info_word rfl f2 (by rw [f1, size_pg]; have := G1.out; omega) ?_; intro w2 hw2; rw [f1, set_pg b q G1.out G2.out] at hw2)
      | (refine ld_pg rfl _ rfl _ rfl _ _ hw2.row ?_)
      | (refine st_pg rfl _ _ rfl _ _ _ rfl rfl _ _ (by rw [hw2.rowO (by omega)]; exact f3) (by rw [hw2.softO (by omega)]; exact f4) ?_; intro w3 hw3))
    refine ret_cell2 Tryz.results66 rfl (read_pg _ _ _ _ hw3.row) rfl rfl ⟨rfl, hw3.below (hw2.below f6 (by omega)) (by omega)⟩
  · replace hok := b_false hok
    rw [hok]
    simp only [Bool.false_eq_true, if_false]
    go_enter Tryz.func66, Tryz.ntmps66
    go_wp2_with (first
      | (go_at_call 90; refine (word_no f1 hok).mono ?_; rintro e w1 ⟨rfl, rfl⟩)
      | (refine ld_pg rfl _ rfl _ rfl _ _ f1 ?_)
      | (refine st_pg rfl _ _ rfl _ _ _ rfl rfl _ _ f3 f4 ?_; intro w3 hw3))
    refine ret_cell2 Tryz.results66 rfl (read_pg _ _ _ _ hw3.row) rfl rfl ⟨rfl, hw3.below f6 (by omega)⟩

end Go.Proofs.YthpodinbbmgfoaaGreat
