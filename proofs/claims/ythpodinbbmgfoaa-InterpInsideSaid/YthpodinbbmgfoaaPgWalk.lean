/-
  The walks of package page.
-/
import Derived.Test.YthpodinbbmgfoaaPgBase
import Derived.Test.YthpodinbbmgfoaaProg
set_option linter.unusedSimpArgs false
set_option linter.unusedVariables false
namespace Go.Proofs.Ythpodinbbmgfoaa
open Go.Proofs.Pg Go.RowKit

theorem infoP : (Try.prog.info? 35).map (·.size) = some 9 := by kernel_rfl
theorem infoPs : (Try.prog.info? 36).map (·.size) = some 144 := by kernel_rfl

theorem Take1_any (b : Bool) (q : Nat → Nat) (w : World) :
    Calls Try.prog 92 #[.agg (pg1 b q)] w fun e w' => e = .returned (.bool (!b)) ∧ New w w' := by
  unfold pg1
  go_enter Try.func92, Try.ntmps92
  go_wp2
  go_ret
  exact ⟨rfl, (Below.refl _ _).alloc (Nat.le_refl _) _⟩

theorem IndexFunc_free (B : Nat) (b : Nat → Bool) (q : Nat → Nat → Nat) (w : World) (hB : w.rowD B = pg b q) (hlt : B < w.heap.size) :
    Calls Try.prog 91 #[.slice (some ⟨B, 0, none⟩) 16 16, .func (.func 92) #[] #[]] w fun e w' => e = .returned (.int .i64 (ffi b)) ∧ New w w' := by
  go_enter Try.func91, Try.ntmps91
  go_wp2
  go_loopw [8] (fun i wr => ∃ k : Nat, k ≤ 16 ∧ i = .int .i64 k ∧ (∀ j, j < k → b j = true) ∧ New w wr) (fun i _ => 16 - (intOf i).toNat)
  case atStart => exact ⟨0, by omega, rfl, fun j h => by omega, Below.refl _ _⟩
  case round =>
    obtain ⟨k, hk, rfl, hb, hn⟩ := hrel
    rename_i wr
    have hrow : wr.rowD B = pg b q := by rw [hn.row hlt]; exact hB
    have HB := Lib.hid hb; clear hb
    by_cases hk2 : k < 16
    · have hki : (k : Int) < 16 := by omega
      by_cases hbk : b k = true
      · go_wp2_with (first
          | (refine wpList_load_any rfl 35 _ rfl B (k * 9) rfl 9 _ Try.underlying35 rfl infoP (by decide) (by rw [hrow, size_pg]; omega) ?_; rw [hrow, extract_pg b q hk2])
          | (go_at_call 92; refine (Take1_any _ _ _).mono ?_; rintro e w1 ⟨rfl, hn1⟩))
        go_roundw
        case rel => exact ⟨k + 1, by omega, by go_num, fun j hj => by rcases Nat.lt_or_ge j k with g | g; · exact HB.out j g
                                                                      · rw [show j = k from by omega]; exact hbk, hn.to hn1⟩
        case measure => simp [intOf]; omega
      · replace hbk := b_false hbk
        go_wp2_with (first
          | (refine wpList_load_any rfl 35 _ rfl B (k * 9) rfl 9 _ Try.underlying35 rfl infoP (by decide) (by rw [hrow, size_pg]; omega) ?_; rw [hrow, extract_pg b q hk2])
          | (go_at_call 92; refine (Take1_any _ _ _).mono ?_; rintro e w1 ⟨rfl, hn1⟩))
        go_ret
        exact ⟨ret_i (by unfold ffi; rw [ff_eq hk2 hbk HB.out, if_neg (by omega)]), hn.to hn1⟩
    · go_wp2
      go_ret
      exact ⟨ret_i (by unfold ffi; rw [if_pos (ff_none fun j hj => HB.out j (by omega))]), hn⟩

theorem zeroPs : Try.zeroCells36 = pg noBusy noWords := by kernel_rfl

set_option maxHeartbeats 1000000 in
theorem Take_any (b : Nat → Bool) (q : Nat → Nat → Nat) (w : World) :
    Calls Try.prog 45 #[.agg (pg b q)] w fun e w' => e = .returned (.tuple #[.agg (pg (takeB b) (takeQ b q)), .int .i64 (takeN b), .int .i64 (takeE b)]) ∧ New w w' := by
  have hle := ff_le b
  by_cases hf : ff b = 16
  · have hi : ffi b = -1 := by unfold ffi; rw [if_pos hf]
    go_enter Try.func45, Try.ntmps45
    go_wp2_with (first
      | (go_at_call 91; refine (IndexFunc_free _ b q _ (by simp [go_sem]) (by simp; omega)).mono ?_; rintro e w1 ⟨rfl, hn1⟩; obtain ⟨f1, f2, f3, f4, f5, f6⟩ := two_blocks hn1.size2; rw [zeroPs] at f3)
      | (refine wpList_load_any rfl 36 _ rfl w.heap.size 0 rfl 144 _ Try.underlying36 rfl infoPs (by decide) (by rw [f1, size_pg]; omega) ?_; rw [f1, extract_all _ (size_pg _ _)])
      | (refine wpList_store_agg rfl 36 _ _ rfl (w.heap.size + 1) 0 (pg b q) rfl rfl 144 infoPs (size_pg _ _) (one_pg _ _) f4 (by rw [f3, size_pg]; omega) ?_; intro w2 hw2; rw [f3, splice_all _ _ (by rw [size_pg, size_pg])] at hw2))
    have hl := run_loadVar_any (P := Try.prog) w2 (w.heap.size + 1) 0 36 144 _ Try.underlying36 rfl infoPs (by decide) (by rw [hw2.row, size_pg]; omega)
    rw [hw2.row, extract_all _ (size_pg _ _)] at hl
    refine ret_cell3 Try.results45 rfl hl rfl rfl rfl ⟨?_, hw2.below f6 (by omega)⟩
    simp [takeB, takeQ, takeN, takeE, hf]
  · have hi : ffi b = (ff b : Int) := by unfold ffi; rw [if_neg hf]
    have hlt : ff b < 16 := by omega
    generalize hk : ff b = k at *
    have HK := Lib.hid hk; clear hk
    have hki : (k : Int) < 16 := by omega
    go_enter Try.func45, Try.ntmps45
    go_wp2_with (first
      | (go_at_call 91; refine (IndexFunc_free _ b q _ (by simp [go_sem]) (by simp; omega)).mono ?_; rintro e w1 ⟨rfl, hn1⟩; obtain ⟨f1, f2, f3, f4, f5, f6⟩ := two_blocks hn1.size2; rw [zeroPs] at f3)
      | (refine wpList_store_agg rfl 35 _ _ rfl w.heap.size (k * 9) (pg1 true zeros8) rfl rfl 9 infoP rfl (one_pg1 _ _) f2 (by rw [f1, size_pg]; omega) ?_; intro w2 hw2; rw [f1, splice_pg _ _ hlt] at hw2)
      | (refine wpList_load_any rfl 36 _ rfl w.heap.size 0 rfl 144 _ Try.underlying36 rfl infoPs (by decide) (by rw [hw2.row, size_pg]; omega) ?_; rw [hw2.row, extract_all _ (size_pg _ _)])
      | (refine wpList_store_agg rfl 36 _ _ rfl (w.heap.size + 1) 0 _ rfl rfl 144 infoPs (size_pg _ _) (one_pg _ _) (by rw [hw2.softO (by omega)]; exact f4) (by rw [hw2.rowO (by omega), f3, size_pg]; omega) ?_; intro w3 hw3; rw [hw2.rowO (by omega), f3, splice_all _ _ (by rw [size_pg, size_pg])] at hw3))
    have hl := run_loadVar_any (P := Try.prog) w3 (w.heap.size + 1) 0 36 144 _ Try.underlying36 rfl infoPs (by decide) (by rw [hw3.row, size_pg]; omega)
    rw [hw3.row, extract_all _ (size_pg _ _)] at hl
    refine ret_cell3 Try.results45 rfl hl rfl rfl rfl ⟨?_, hw3.below (hw2.below f6 (by omega)) (by omega)⟩
    unfold takeB takeQ takeN takeE
    rw [HK.out, if_neg hf, if_neg hf, if_neg hf, if_neg hf]; rfl

/-- The result's reading: a whole row of pages. -/
theorem read_pg (w : World) (B : Nat) (b : Nat → Bool) (q : Nat → Nat → Nat) (h : w.rowD B = pg b q) : (loadVar 36 ⟨B, 0, none⟩).run Try.prog w = .ok (.agg (pg b q)) w := by
  have hl := run_loadVar_any (P := Try.prog) w B 0 36 144 _ Try.underlying36 rfl infoPs (by decide) (by rw [h, size_pg]; omega)
  rw [h, extract_all _ (size_pg _ _)] at hl
  exact hl

end Go.Proofs.Ythpodinbbmgfoaa
