/-
  The walk of Check of package page.
-/
import Derived.Test.YthpodinbbmgfoaaPgEq
set_option linter.unusedVariables false
namespace Go.Proofs.Ythpodinbbmgfoaa
open Go.Proofs.Pg Go.RowKit

set_option maxRecDepth 20000 in
theorem Check1_any (Z : Nat) (b : Bool) (q : Nat → Nat) (w : World) (hz : w.rowD Z = ws zeros8) (hlt : Z < w.heap.size) :
    Calls Try.prog 95 #[.agg (pg1 b q), .pointer (some ⟨Z, 0, none⟩)] w fun e w' => e = .returned (.bool (!b && !zero8 q)) ∧ New w w' := by
  obtain ⟨W, hW⟩ : ∃ W : World, w.alloc (.cells (pg1 b q) 35) = W := ⟨_, rfl⟩
  obtain ⟨f1, f2, f5, f6⟩ := one_block (w := w) (c := pg1 b q) (t := 35) (Below.refl _ _)
  rw [hW] at f1 f2 f5 f6
  have hz' : W.rowD Z = ws zeros8 := by rw [rowD_congr (f6.block Z hlt)]; exact hz
  have hb : W.cell? ⟨w.heap.size, 0, none⟩ = some (.bool b) := by rw [cell_rowD, f1]; rfl
  have hs := equalIn_wsM W q zeros8
  rw [sameW_zero] at hs
  cases b
  · go_enter Try.func95, Try.ntmps95
    go_wp2_with (first
      | (refine wpList_load_any rfl 33 _ rfl w.heap.size 1 rfl 8 _ Try.underlying33 rfl infoW (by decide) (by rw [f1, size_pg1]; omega) ?_; rw [f1, extract_ws])
      | (refine wpList_load_any rfl 33 _ rfl Z 0 rfl 8 _ Try.underlying33 rfl infoW (by decide) (by rw [hz']; decide) ?_; rw [hz', extract_all _ (show (ws zeros8).size = 8 from rfl)]))
    go_ret
    exact ⟨rfl, f6⟩
  · go_enter Try.func95, Try.ntmps95
    go_wp2
    go_ret
    exact ⟨rfl, f6⟩

theorem IndexFunc_bad (B Z : Nat) (b : Nat → Bool) (q : Nat → Nat → Nat) (w : World) (hB : w.rowD B = pg b q) (hlt : B < w.heap.size) (hz : w.rowD Z = ws zeros8) (hlz : Z < w.heap.size) :
    Calls Try.prog 91 #[.slice (some ⟨B, 0, none⟩) 16 16, .func (.func 95) #[] #[.pointer (some ⟨Z, 0, none⟩)]] w fun e w' => e = .returned (.int .i64 (ffi fun i => !bad1 b q i)) ∧ New w w' := by
  go_enter Try.func91, Try.ntmps91
  go_wp2
  go_loopw [8] (fun i wr => ∃ k : Nat, k ≤ 16 ∧ i = .int .i64 k ∧ (∀ j, j < k → (!bad1 b q j) = true) ∧ New w wr) (fun i _ => 16 - (intOf i).toNat)
  case atStart => exact ⟨0, by omega, rfl, fun j h => by omega, Below.refl _ _⟩
  case round =>
    obtain ⟨k, hk, rfl, hb, hn⟩ := hrel
    rename_i wr
    have hrow : wr.rowD B = pg b q := by rw [hn.row hlt]; exact hB
    have hrz : wr.rowD Z = ws zeros8 := by rw [hn.row hlz]; exact hz
    have hsz := hn.size
    have HB := Lib.hid hb; clear hb
    by_cases hk2 : k < 16
    · have hki : (k : Int) < 16 := by omega
      have kc : ∀ w1, w1.rowD Z = ws zeros8 → Z < w1.heap.size → Calls Try.prog 95 #[.agg (pg1 (b k) (q k)), .pointer (some ⟨Z, 0, none⟩)] w1 fun e w' => e = .returned (.bool (bad1 b q k)) ∧ New w1 w' := fun w1 h1 h2 => Check1_any Z (b k) (q k) w1 h1 h2
      by_cases hbk : bad1 b q k = true
      · go_wp2_with (first
          | (refine wpList_load_any rfl 35 _ rfl B (k * 9) rfl 9 _ Try.underlying35 rfl infoP (by decide) (by rw [hrow, size_pg]; omega) ?_; rw [hrow, extract_pg b q hk2])
          | (go_at_call 95; refine (kc _ hrz (by omega)).mono ?_; rintro e w1 ⟨rfl, hn1⟩))
        go_ret
        exact ⟨ret_i (by unfold ffi; rw [ff_eq hk2 (by rw [hbk]; rfl) HB.out, if_neg (by omega)]), hn.to hn1⟩
      · replace hbk := b_false hbk
        go_wp2_with (first
          | (refine wpList_load_any rfl 35 _ rfl B (k * 9) rfl 9 _ Try.underlying35 rfl infoP (by decide) (by rw [hrow, size_pg]; omega) ?_; rw [hrow, extract_pg b q hk2])
          | (go_at_call 95; refine (kc _ hrz (by omega)).mono ?_; rintro e w1 ⟨rfl, hn1⟩))
        go_roundw
        case rel => exact ⟨k + 1, by omega, by go_num, fun j hj => by rcases Nat.lt_or_ge j k with g | g; · exact HB.out j g
                                                                      · rw [show j = k from by omega, hbk]; rfl, hn.to hn1⟩
        case measure => simp [intOf]; omega
    · go_wp2
      go_ret
      exact ⟨ret_i (by unfold ffi; rw [if_pos (ff_none fun j hj => HB.out j (by omega))]), hn⟩

theorem ContainsFunc_bad (B Z : Nat) (b : Nat → Bool) (q : Nat → Nat → Nat) (w : World) (hB : w.rowD B = pg b q) (hlt : B < w.heap.size) (hz : w.rowD Z = ws zeros8) (hlz : Z < w.heap.size) :
    Calls Try.prog 96 #[.slice (some ⟨B, 0, none⟩) 16 16, .func (.func 95) #[] #[.pointer (some ⟨Z, 0, none⟩)]] w fun e w' => e = .returned (.bool (!chk b q)) ∧ New w w' := by
  have hc := IndexFunc_bad B Z b q w hB hlt hz hlz
  unfold chk fb
  have hff := ff_le fun i => !bad1 b q i
  unfold ffi at hc
  generalize (ff fun i => !bad1 b q i) = m at *
  by_cases hm : m = 16
  · subst hm
    simp only [if_true] at hc
    go_enter Try.func96, Try.ntmps96
    go_wp2_with (go_at_call 91; refine hc.mono ?_; rintro e w1 ⟨rfl, hn1⟩)
    go_ret
    exact ⟨rfl, hn1⟩
  · rw [if_neg hm] at hc
    have e : (m == 16) = false := by simpa using hm
    rw [e]
    go_enter Try.func96, Try.ntmps96
    go_wp2_with (go_at_call 91; refine hc.mono ?_; rintro e w1 ⟨rfl, hn1⟩)
    go_ret
    exact ⟨rfl, hn1⟩

theorem Check_any (b : Nat → Bool) (q : Nat → Nat → Nat) (w : World) :
    Calls Try.prog 55 #[.agg (pg b q)] w fun e w' => e = .returned (.bool (chk b q)) ∧ New w w' := by
  obtain ⟨W, hW⟩ : ∃ W : World, (w.alloc (.cells (pg b q) 36)).alloc (.cells #[.int .u64 0, .int .u64 0, .int .u64 0, .int .u64 0, .int .u64 0, .int .u64 0, .int .u64 0, .int .u64 0] 33) = W := ⟨_, rfl⟩
  obtain ⟨f1, f2, f3, f4, f5, f6⟩ := two_blocks (w := w) (c := pg b q) (t := 36) (d := #[.int .u64 0, .int .u64 0, .int .u64 0, .int .u64 0, .int .u64 0, .int .u64 0, .int .u64 0, .int .u64 0]) (u := 33) (Below.refl _ _)
  rw [hW] at f1 f2 f3 f4 f5 f6
  change W.rowD (w.heap.size + 1) = ws zeros8 at f3
  go_enter Try.func55, Try.ntmps55
  go_wp2_with (go_at_call 96; refine (ContainsFunc_bad _ _ b q _ f1 (by omega) f3 (by omega)).mono ?_; rintro e w1 ⟨rfl, hn1⟩)
  go_ret
  exact ⟨ret_b (by simp), Below.trans f6 (hn1.mono f6.size)⟩
end Go.Proofs.Ythpodinbbmgfoaa
