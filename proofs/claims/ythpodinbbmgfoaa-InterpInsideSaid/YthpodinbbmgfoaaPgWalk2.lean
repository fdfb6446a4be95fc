/-
  The walks of package page, second part.
-/
import Derived.Test.YthpodinbbmgfoaaPgWalk
set_option linter.unusedSimpArgs false
set_option linter.unusedVariables false
namespace Go.Proofs.Ythpodinbbmgfoaa
open Go.Proofs.Pg Go.RowKit

section
variable {ops : Array Oper} {rest : List Oper} {op : Oper} {a : Act} {w : World} {Q : Exit → Act → World → Prop}
/-! Whole rows of pages, and single pages, out of a block and into it. -/
theorem ld_pg (hgd : Region.wanted op (yielded ops a.tmps) = true) (x : Operand) (ho : op.op = .load 36 x) (B : Nat) (hx : a.eval x = .pointer (some ⟨B, 0, none⟩)) (b : Nat → Bool) (q : Nat → Nat → Nat) (hr : w.rowD B = pg b q)
    (h : wpList Try.prog ops Q rest (a.put op.dst (.agg (pg b q))) w) : wpList Try.prog ops Q (op :: rest) a w := by
  refine wpList_load_any hgd 36 x ho B 0 hx 144 _ Try.underlying36 rfl infoPs (by decide) (by rw [hr, size_pg]; omega) ?_
  rw [hr, extract_all _ (size_pg _ _)]; exact h
theorem st_pg (hgd : Region.wanted op (yielded ops a.tmps) = true) (x y : Operand) (ho : op.op = .store 36 x y) (B : Nat) (b : Nat → Bool) (q : Nat → Nat → Nat) (hx : a.eval x = .pointer (some ⟨B, 0, none⟩)) (hy : a.eval y = .agg (pg b q)) (b0 : Nat → Bool) (q0 : Nat → Nat → Nat) (hr : w.rowD B = pg b0 q0) (hs : w.soft B = true)
    (h : ∀ w', Wrote w w' B (pg b q) → wpList Try.prog ops Q rest (a.put op.dst undef) w') : wpList Try.prog ops Q (op :: rest) a w := by
  refine wpList_store_agg hgd 36 x y ho B 0 _ hx hy 144 infoPs (size_pg _ _) (one_pg _ _) hs (by rw [hr, size_pg]; omega) ?_
  intro w' hw; refine h w' ?_
  rw [hr, splice_all _ _ (by rw [size_pg, size_pg])] at hw; exact hw
theorem ld_page (hgd : Region.wanted op (yielded ops a.tmps) = true) (x : Operand) (ho : op.op = .load 35 x) (B i : Nat) (hx : a.eval x = .pointer (some ⟨B, i * 9, none⟩)) (hi : i < 16) (b : Nat → Bool) (q : Nat → Nat → Nat) (hr : w.rowD B = pg b q)
    (h : wpList Try.prog ops Q rest (a.put op.dst (.agg (pg1 (b i) (q i)))) w) : wpList Try.prog ops Q (op :: rest) a w := by
  refine wpList_load_any hgd 35 x ho B (i * 9) hx 9 _ Try.underlying35 rfl infoP (by decide) (by rw [hr, size_pg]; omega) ?_
  rw [hr, extract_pg _ _ hi]; exact h
theorem st_page (hgd : Region.wanted op (yielded ops a.tmps) = true) (x y : Operand) (ho : op.op = .store 35 x y) (B i : Nat) (b' : Bool) (q' : Nat → Nat) (hx : a.eval x = .pointer (some ⟨B, i * 9, none⟩)) (hi : i < 16) (hy : a.eval y = .agg (pg1 b' q')) (b : Nat → Bool) (q : Nat → Nat → Nat) (hr : w.rowD B = pg b q) (hs : w.soft B = true)
    (h : ∀ w', Wrote w w' B (pg (upd b i b') (upd q i q')) → wpList Try.prog ops Q rest (a.put op.dst undef) w') : wpList Try.prog ops Q (op :: rest) a w := by
  refine wpList_store_agg hgd 35 x y ho B (i * 9) _ hx hy 9 infoP rfl (one_pg1 _ _) hs (by rw [hr, size_pg]; omega) ?_
  intro w' hw; refine h w' ?_
  rw [hr, splice_pg _ _ hi] at hw; exact hw
end


set_option maxHeartbeats 2000000 in
theorem Free_any (b : Nat → Bool) (q : Nat → Nat → Nat) (n : Int) (w : World) :
    Calls Try.prog 46 #[.agg (pg b q), .int .i64 n] w fun e w' => e = .returned (.tuple #[.agg (pg (freeB b n) (freeQ b q n)), .int .i64 (freeE b n)]) ∧ New w w' := by
  obtain ⟨W, hW⟩ : ∃ W : World, (w.alloc (.cells (pg b q) 36)).alloc (.cells Try.zeroCells36 36) = W := ⟨_, rfl⟩
  obtain ⟨f1, f2, f3, f4, f5, f6⟩ := two_blocks (w := w) (c := pg b q) (t := 36) (d := Try.zeroCells36) (u := 36) (Below.refl _ _)
  rw [hW] at f1 f2 f3 f4 f5 f6
  rw [zeroPs] at f3
  by_cases h1 : n < 0 ∨ 16 ≤ n
  · have hok : freeOk b n = false := by unfold freeOk; rcases h1 with h | h <;> simp <;> intros <;> omega
    have e1 : freeE b n = 2 := by unfold freeE; rw [if_pos h1]
    unfold freeB freeQ
    rw [hok, e1]
    simp only [Bool.false_eq_true, if_false]
    by_cases h2 : n < 0 <;> by_cases h3 : 16 ≤ n
    all_goals first
      | (exfalso; omega)
      | skip
    all_goals
      clear h1 hok e1
      go_enter Try.func46, Try.ntmps46
      go_wp2_with (first
        | (refine ld_pg rfl _ rfl _ rfl b q f1 ?_)
        | (refine st_pg rfl _ _ rfl _ b q rfl rfl _ _ f3 f4 ?_; intro w2 hw2))
      refine ret_cell2 Try.results46 rfl (read_pg _ _ _ _ hw2.row) rfl rfl ⟨rfl, hw2.below f6 (by omega)⟩

  · obtain ⟨k, rfl⟩ : ∃ k : Nat, n = k := ⟨n.toNat, by omega⟩
    have hk : k < 16 := by omega
    have hb : W.cell? ⟨w.heap.size, k * 9, none⟩ = some (.bool (b k)) := by rw [cell_rowD, f1, get_busy b q hk]
    have hk1 : ¬ (k : Int) < 0 := by omega
    have hk2 : ¬ (16 : Int) ≤ (k : Int) := by omega
    by_cases hbk : b k = true
    · have hok : freeOk b k = true := by unfold freeOk; simp [hbk]; omega
      have e1 : freeE b k = 0 := by unfold freeE; rw [if_neg h1]; simp [hbk]
      unfold freeB freeQ
      rw [hok, e1]
      simp only [if_true, Int.toNat_natCast]
      clear h1 hok e1
      go_enter Try.func46, Try.ntmps46
      go_wp2_with (first
        | (refine st_page rfl _ _ rfl _ k false zeros8 rfl hk rfl _ _ f1 f2 ?_; intro w2 hw2)
        | (refine ld_pg rfl _ rfl _ rfl _ _ hw2.row ?_)
        | (refine st_pg rfl _ _ rfl _ _ _ rfl rfl _ _ (by rw [hw2.rowO (by omega)]; exact f3) (by rw [hw2.softO (by omega)]; exact f4) ?_; intro w3 hw3))
      refine ret_cell2 Try.results46 rfl (read_pg _ _ _ _ hw3.row) rfl rfl ⟨rfl, hw3.below (hw2.below f6 (by omega)) (by omega)⟩
    · replace hbk := b_false hbk
      have hok : freeOk b k = false := by unfold freeOk; simp [hbk]
      have e1 : freeE b k = 150 := by unfold freeE; rw [if_neg h1]; simp [hbk]
      unfold freeB freeQ
      rw [hok, e1]
      simp only [Bool.false_eq_true, if_false]
      clear h1 hok e1
      go_enter Try.func46, Try.ntmps46
      go_wp2_with (first
        | (refine ld_pg rfl _ rfl _ rfl b q f1 ?_)
        | (refine st_pg rfl _ _ rfl _ b q rfl rfl _ _ f3 f4 ?_; intro w2 hw2))
      refine ret_cell2 Try.results46 rfl (read_pg _ _ _ _ hw2.row) rfl rfl ⟨rfl, hw2.below f6 (by omega)⟩

theorem word_any (B : Nat) (b : Nat → Bool) (q : Nat → Nat → Nat) (x : Nat) (w : World) (hr : w.rowD B = pg b q) :
    Calls Try.prog 93 #[.pointer (some ⟨B, 0, none⟩), .int .u64 x] w fun e w' => e = .returned (.tuple #[if okAt b x then .pointer (some ⟨B, x / 8 * 9 + 1 + x % 8, none⟩) else .pointer none, .int .i64 (loadE b x)]) ∧ w = w' := by
  by_cases h1 : 128 ≤ x
  · have hok : okAt b x = false := by unfold okAt; simp; omega
    unfold loadE
    rw [hok]
    simp only [Bool.false_eq_true, if_false]
    have h1i : (128 : Int) ≤ (x : Int) := by omega
    go_enter Try.func93, Try.ntmps93
    go_wp2
    go_ret2
    exact ⟨rfl, rfl⟩
  · have h1i : ¬ (128 : Int) ≤ (x : Int) := by omega
    have hk : x / 8 < 16 := by omega
    have hb : w.cell? ⟨B, x / 8 * 9, none⟩ = some (.bool (b (x / 8))) := by rw [cell_rowD, hr, get_busy b q hk]
    by_cases hbk : b (x / 8) = true
    · have hok : okAt b x = true := by unfold okAt; simp [hbk]; omega
      unfold loadE
      rw [hok]
      simp only [if_true]
      go_enter Try.func93, Try.ntmps93
      go_wp2
      go_ret2
      exact ⟨rfl, rfl⟩
    · replace hbk := b_false hbk
      have hok : okAt b x = false := by unfold okAt; simp [hbk]
      unfold loadE
      rw [hok]
      simp only [Bool.false_eq_true, if_false]
      go_enter Try.func93, Try.ntmps93
      go_wp2
      go_ret2
      exact ⟨rfl, rfl⟩


theorem word_ok {B : Nat} {b : Nat → Bool} {q : Nat → Nat → Nat} {x : Nat} {w : World} (hr : w.rowD B = pg b q) (h : okAt b x = true) :
    Calls Try.prog 93 #[.pointer (some ⟨B, 0, none⟩), .int .u64 x] w fun e w' => e = .returned (.tuple #[.pointer (some ⟨B, x / 8 * 9 + 1 + x % 8, none⟩), .int .i64 0]) ∧ w = w' := by
  have := word_any B b q x w hr
  unfold loadE at this
  rw [h] at this; exact this
theorem word_no {B : Nat} {b : Nat → Bool} {q : Nat → Nat → Nat} {x : Nat} {w : World} (hr : w.rowD B = pg b q) (h : okAt b x = false) :
    Calls Try.prog 93 #[.pointer (some ⟨B, 0, none⟩), .int .u64 x] w fun e w' => e = .returned (.tuple #[.pointer none, .int .i64 150]) ∧ w = w' := by
  have := word_any B b q x w hr
  unfold loadE at this
  rw [h] at this; exact this
theorem okAt_lt {b : Nat → Bool} {x : Nat} (h : okAt b x = true) : x / 8 < 16 ∧ x % 8 < 8 := by
  unfold okAt at h
  simp only [Bool.and_eq_true, decide_eq_true_eq] at h
  omega

theorem Load_any (b : Nat → Bool) (q : Nat → Nat → Nat) (x : Nat) (w : World) :
    Calls Try.prog 52 #[.agg (pg b q), .int .u64 x] w fun e w' => e = .returned (.tuple #[.int .u64 (loadV b q x), .int .i64 (loadE b x)]) ∧ New w w' := by
  obtain ⟨W, hW⟩ : ∃ W : World, w.alloc (.cells (pg b q) 36) = W := ⟨_, rfl⟩
  obtain ⟨f1, f2, f5, f6⟩ := one_block (w := w) (c := pg b q) (t := 36) (Below.refl _ _)
  rw [hW] at f1 f2 f5 f6
  unfold loadV loadE
  by_cases hok : okAt b x = true
  · have hb : W.cell? ⟨w.heap.size, x / 8 * 9 + 1 + x % 8, none⟩ = some (.int .u64 (q (x / 8) (x % 8))) := by rw [cell_rowD, f1, get_word b q (okAt_lt hok).1 (okAt_lt hok).2]
    rw [hok]
    simp only [if_true]
    go_enter Try.func52, Try.ntmps52
    go_wp2_with (go_at_call 93; refine (word_ok f1 hok).mono ?_; rintro e w1 ⟨rfl, rfl⟩)
    go_ret2
    exact ⟨rfl, f6⟩
  · replace hok := b_false hok
    rw [hok]
    simp only [Bool.false_eq_true, if_false]
    go_enter Try.func52, Try.ntmps52
    go_wp2_with (go_at_call 93; refine (word_no f1 hok).mono ?_; rintro e w1 ⟨rfl, rfl⟩)
    go_ret2
    exact ⟨rfl, f6⟩

theorem info_word : (Try.prog.info? 22).map (·.size) = some 1 := by kernel_rfl
set_option maxHeartbeats 1000000 in
theorem Store_any (b : Nat → Bool) (q : Nat → Nat → Nat) (x v : Nat) (w : World) :
    Calls Try.prog 50 #[.agg (pg b q), .int .u64 x, .int .u64 v] w fun e w' => e = .returned (.tuple #[.agg (pg b (storeQ b q x v)), .int .i64 (loadE b x)]) ∧ New w w' := by
  obtain ⟨W, hW⟩ : ∃ W : World, (w.alloc (.cells (pg b q) 36)).alloc (.cells Try.zeroCells36 36) = W := ⟨_, rfl⟩
  obtain ⟨f1, f2, f3, f4, f5, f6⟩ := two_blocks (w := w) (c := pg b q) (t := 36) (d := Try.zeroCells36) (u := 36) (Below.refl _ _)
  rw [hW] at f1 f2 f3 f4 f5 f6
  rw [zeroPs] at f3
  unfold storeQ loadE
  by_cases hok : okAt b x = true
  · obtain ⟨g1, g2⟩ := okAt_lt hok
    rw [hok]
    simp only [if_true]
    have G1 := Lib.hid g1; clear g1
    have G2 := Lib.hid g2; clear g2
    go_enter Try.func50, Try.ntmps50
    go_wp2_with (first
      | (go_at_call 93; refine (word_ok f1 hok).mono ?_; rintro e w1 ⟨rfl, rfl⟩)
      | (refine wpList_store_cell rfl 22 _ _ rfl w.heap.size (x / 8 * 9 + 1 + x % 8) (.int .u64 v) rfl rfl info_word rfl f2 (by rw [f1, size_pg]; have := G1.out; omega) ?_; intro w2 hw2; rw [f1, set_pg b q G1.out G2.out] at hw2)
      | (refine ld_pg rfl _ rfl _ rfl _ _ hw2.row ?_)
      | (refine st_pg rfl _ _ rfl _ _ _ rfl rfl _ _ (by rw [hw2.rowO (by omega)]; exact f3) (by rw [hw2.softO (by omega)]; exact f4) ?_; intro w3 hw3))
    refine ret_cell2 Try.results50 rfl (read_pg _ _ _ _ hw3.row) rfl rfl ⟨rfl, hw3.below (hw2.below f6 (by omega)) (by omega)⟩
  · replace hok := b_false hok
    rw [hok]
    simp only [Bool.false_eq_true, if_false]
    go_enter Try.func50, Try.ntmps50
    go_wp2_with (first
      | (go_at_call 93; refine (word_no f1 hok).mono ?_; rintro e w1 ⟨rfl, rfl⟩)
      | (refine ld_pg rfl _ rfl _ rfl _ _ f1 ?_)
      | (refine st_pg rfl _ _ rfl _ _ _ rfl rfl _ _ f3 f4 ?_; intro w3 hw3))
    refine ret_cell2 Try.results50 rfl (read_pg _ _ _ _ hw3.row) rfl rfl ⟨rfl, hw3.below f6 (by omega)⟩

set_option maxHeartbeats 1000000 in
theorem Count_any (b : Nat → Bool) (q : Nat → Nat → Nat) (w : World) :
    Calls Try.prog 47 #[.agg (pg b q)] w fun e w' => e = .returned (.int .i64 (cnt b)) ∧ New w w' := by
  obtain ⟨W, hW⟩ : ∃ W : World, w.alloc (.cells (pg b q) 36) = W := ⟨_, rfl⟩
  obtain ⟨f1, f2, f5, f6⟩ := one_block (w := w) (c := pg b q) (t := 36) (Below.refl _ _)
  rw [hW] at f1 f2 f5 f6
  have hidx : ∀ (k : Nat), k < 16 → ∀ w : World, (Instr.index 36 (.agg (pg b q)) (.int .i64 (k : Int))).run Try.prog w = .ok (.agg (pg1 (b k) (q k))) w := fun k hk w => by
    rw [run_index_agg w 36 35 16 9 (pg b q) .i64 k _ Try.underlying36 Try.underlying35 rfl infoP hk, extract_pg b q hk]
  have HI := Lib.hid hidx; clear hidx
  go_enter Try.func47, Try.ntmps47
  go_wp2_with (refine ld_pg rfl _ rfl _ rfl _ _ f1 ?_)
  go_loopw [3, 7] (fun n i wr => ∃ k : Nat, k ≤ 16 ∧ i = .int .i64 k ∧ n = .int .i64 (cntTo b k) ∧ Below w.heap.size w wr) (fun _ i _ => 16 - (intOf i).toNat)
  case atStart => exact ⟨0, by omega, rfl, rfl, f6⟩
  case round =>
    obtain ⟨k, hk, rfl, rfl, hn⟩ := hrel
    rename_i wr
    have hc := cntTo_le b k
    by_cases hk2 : k < 16
    · have hki : (k : Int) < 16 := by omega
      have hx := HI.out k hk2
      obtain ⟨WR, hWR⟩ : ∃ W : World, wr.alloc (.cells #[.bool false, .int .u64 0, .int .u64 0, .int .u64 0, .int .u64 0, .int .u64 0, .int .u64 0, .int .u64 0, .int .u64 0] 35) = W := ⟨_, rfl⟩
      obtain ⟨r1, r2, r5, r6⟩ := one_block (w := wr) (c := #[.bool false, .int .u64 0, .int .u64 0, .int .u64 0, .int .u64 0, .int .u64 0, .int .u64 0, .int .u64 0, .int .u64 0]) (t := 35) (Below.refl _ _)
      rw [hWR] at r1 r2 r5 r6
      change WR.rowD wr.heap.size = pg1 false zeros8 at r1
      by_cases hbk : b k = true
      · go_wp2_with (refine wpList_store_agg rfl 35 _ _ rfl wr.heap.size 0 (pg1 true (q k)) rfl rfl 9 infoP rfl (one_pg1 _ _) r2 (by rw [r1, size_pg1]; omega) ?_; intro w2 hw2; rw [r1, splice_all _ _ (by rw [size_pg1, size_pg1])] at hw2; have hcell : w2.cell? ⟨wr.heap.size, 0, none⟩ = some (.bool true) := by rw [cell_rowD, hw2.row]; rfl)
        go_roundw
        case rel => exact ⟨k + 1, by omega, by go_num, by simp only [cntTo]; rw [hbk]; go_num, hw2.below (Below.trans hn (r6.mono hn.size)) hn.size⟩
        case measure => simp [intOf]; omega
      · replace hbk := b_false hbk
        go_wp2_with (refine wpList_store_agg rfl 35 _ _ rfl wr.heap.size 0 (pg1 false (q k)) rfl rfl 9 infoP rfl (one_pg1 _ _) r2 (by rw [r1, size_pg1]; omega) ?_; intro w2 hw2; rw [r1, splice_all _ _ (by rw [size_pg1, size_pg1])] at hw2; have hcell : w2.cell? ⟨wr.heap.size, 0, none⟩ = some (.bool false) := by rw [cell_rowD, hw2.row]; rfl)
        go_roundw
        case rel => exact ⟨k + 1, by omega, by go_num, by simp only [cntTo]; rw [hbk]; go_num, hw2.below (Below.trans hn (r6.mono hn.size)) hn.size⟩
        case measure => simp [intOf]; omega
    · have e : k = 16 := by omega
      subst e
      go_wp2
      go_ret
      exact ⟨rfl, hn⟩
end Go.Proofs.Ythpodinbbmgfoaa
