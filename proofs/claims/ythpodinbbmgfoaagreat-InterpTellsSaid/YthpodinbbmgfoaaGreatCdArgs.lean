/-
  The walks of code.Args, services, Fits, and the reference's Args, Fits.
-/
import Derived.Test.YthpodinbbmgfoaaGreatCdTab
import Derived.Deep.QuietTactic
set_option linter.unusedSimpArgs false
set_option linter.unusedVariables false
namespace Go.Proofs.Cd
open Go
def argsP (op : Int) : Int × Int := if 0 ≤ op ∧ op ≤ 37 then (tv 19 34 (op.toNat * 2), tv 19 34 (op.toNat * 2 + 1)) else (0, 0)
def sv (n : Nat) : Int := [0, 1, 0, 0, 1, 0, 1, 0, 1, 2, 4, 1, 2, 1, 2, 1, 1, 1].getD n 0
def svs : Array Value := #[.int .i64 0, .int .i64 1, .int .i64 0, .int .i64 0, .int .i64 1, .int .i64 0, .int .i64 1, .int .i64 0, .int .i64 1, .int .i64 2, .int .i64 4, .int .i64 1, .int .i64 2, .int .i64 1, .int .i64 2, .int .i64 1, .int .i64 1, .int .i64 1]
theorem get_svs {n : Nat} (h : n < 18) : svs[n]? = some (.int .i64 (sv n)) := by
  rcases (show n = 0 ∨ n = 1 ∨ n = 2 ∨ n = 3 ∨ n = 4 ∨ n = 5 ∨ n = 6 ∨ n = 7 ∨ n = 8 ∨ n = 9 ∨ n = 10 ∨ n = 11 ∨ n = 12 ∨ n = 13 ∨ n = 14 ∨ n = 15 ∨ n = 16 ∨ n = 17 from by omega) with rfl | rfl | rfl | rfl | rfl | rfl | rfl | rfl | rfl | rfl | rfl | rfl | rfl | rfl | rfl | rfl | rfl | rfl
  all_goals rfl
def fitsN (n : Int) : Int := if 0 ≤ n ∧ n ≤ 17 then sv n.toNat else 0
def fitsB (n : Int) : Bool := decide (0 ≤ n) && decide (n ≤ 17)
end Go.Proofs.Cd
namespace Go.Proofs.YthpodinbbmgfoaaGreat
open Go.Proofs.Cd Go.RowKit
theorem ret_ii {a b c d : Int} (h : a = c) (h2 : b = d) : Ending.returned (.tuple #[.int .i64 a, .int .i64 b]) = .returned (.tuple #[.int .i64 c, .int .i64 d]) := by rw [h, h2]
theorem ret_ib {a c : Int} {b d : Bool} (h : a = c) (h2 : b = d) : Ending.returned (.tuple #[.int .i64 a, .bool b]) = .returned (.tuple #[.int .i64 c, .bool d]) := by rw [h, h2]
theorem infoInt : (Tryz.prog.info? 3).map (·.size) = some 1 := by kernel_rfl
set_option maxHeartbeats 1000000 in
theorem Args_any (op : Int) (w : World) : Calls Tryz.prog 29 #[.int .i64 op] w fun e w' => e = .returned (.tuple #[.int .i64 (argsP op).1, .int .i64 (argsP op).2]) ∧ New w w' := by
  by_cases h0 : op < 0
  · go_enter Tryz.func29, Tryz.ntmps29
    go_wp2
    go_ret2
    exact ⟨ret_ii (by unfold argsP; rw [if_neg (by omega)]) (by unfold argsP; rw [if_neg (by omega)]), Below.refl _ _⟩
  by_cases h1 : 37 < op
  · go_enter Tryz.func29, Tryz.ntmps29
    go_wp2
    go_ret2
    exact ⟨ret_ii (by unfold argsP; rw [if_neg (by omega)]) (by unfold argsP; rw [if_neg (by omega)]), Below.refl _ _⟩
  obtain ⟨k, rfl⟩ : ∃ k : Nat, op = k := ⟨op.toNat, by omega⟩
  have hk : k < 38 := by omega
  have e1 : (argsP (k : Int)).1 = tv 19 34 (k * 2) := by unfold argsP; rw [if_pos (by omega)]; simp
  have e2 : (argsP (k : Int)).2 = tv 19 34 (k * 2 + 1) := by unfold argsP; rw [if_pos (by omega)]; simp
  have hidx : ∀ w : World, (Instr.index 85 (.agg (tb 19 34)) (.int .i64 (k : Int))).run Tryz.prog w = .ok (.agg #[.int .i64 (tv 19 34 (k * 2)), .int .i64 (tv 19 34 (k * 2 + 1))]) w := fun w => by
    rw [run_index_agg w 85 84 38 2 (tb 19 34) .i64 k _ Tryz.underlying85 Tryz.underlying84 rfl info2 hk, extract_tb _ _ hk]
  rw [e1, e2]
  clear e1 e2
  generalize tv 19 34 (k * 2) = x at *
  generalize tv 19 34 (k * 2 + 1) = y at *
  go_enter Tryz.func29, Tryz.ntmps29
  go_wp2_with (go_at_call 64; (with_reducible refine (table_any _).mono ?_); rintro e w1 ⟨rfl, hn1⟩)
  go_quiet (fail)
  go_wp2
  go_ret2
  exact ⟨rfl, (hn1.to ((Below.refl _ _).alloc (Nat.le_refl _) _)).drewN' _⟩

set_option maxHeartbeats 2000000 in
theorem RArgs_any (op : Int) (w : World) : Calls Tryz.prog 19 #[.int .i64 op] w fun e w' => e = .returned (.tuple #[.int .i64 (argsP op).1, .int .i64 (argsP op).2]) ∧ New w w' := by
  rcases (show op = 1 ∨ op = 5 ∨ op = 2 ∨ op = 21 ∨ op = 3 ∨ op = 4 ∨ op = 19 ∨ op = 24 ∨ op = 34 ∨ op = 35 ∨ op = 36 ∨ op = 25 ∨ op = 0 ∨ op = 20 ∨ op = 22 ∨ op = 23 ∨ op = 37 ∨ op < 0 ∨ 37 < op ∨ (6 ≤ op ∧ op ≤ 18) ∨ (26 ≤ op ∧ op ≤ 33) from by omega) with rfl | rfl | rfl | rfl | rfl | rfl | rfl | rfl | rfl | rfl | rfl | rfl | rfl | rfl | rfl | rfl | rfl | h | h | h | h
  iterate 17 (
    · go_enter Tryz.func19, Tryz.ntmps19
      go_wp2
      go_ret2
      exact ⟨rfl, Below.refl _ _⟩)
  · go_enter Tryz.func19, Tryz.ntmps19
    go_wp2
    go_ret2
    exact ⟨ret_ii (by unfold argsP; rw [if_neg (by omega)]) (by unfold argsP; rw [if_neg (by omega)]), Below.refl _ _⟩
  · go_enter Tryz.func19, Tryz.ntmps19
    go_wp2
    go_ret2
    exact ⟨ret_ii (by unfold argsP; rw [if_neg (by omega)]) (by unfold argsP; rw [if_neg (by omega)]), Below.refl _ _⟩
  all_goals
    obtain ⟨ha, hb⟩ := h
    go_enter Tryz.func19, Tryz.ntmps19
    go_wp2
    go_ret2
    exact ⟨ret_ii (by unfold argsP; rw [if_pos (by omega)]; dsimp only; rw [tv_in (by omega), if_pos (by omega)]) (by unfold argsP; rw [if_pos (by omega)]; dsimp only; rw [tv_in (by omega), if_neg (by omega)]), Below.refl _ _⟩
end Go.Proofs.YthpodinbbmgfoaaGreat
