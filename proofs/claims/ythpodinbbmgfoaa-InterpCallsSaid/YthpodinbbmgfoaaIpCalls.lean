/-
  The walk of the statement InterpCalls.
-/
import Derived.Test.YthpodinbbmgfoaaIpHead
set_option linter.unusedVariables false
set_option linter.unusedSimpArgs false
namespace Go.Proofs.Ip
open Go Go.Proofs.Cd Go.RowKit Go.Proofs.Pg
/-- The calls, one behind the other. -/
def callsL : Nat → List Inst
  | 0 => [(22, 2), (0, 0)]
  | k + 1 => callsL k ++ [(22, 2 * k + 4), (23, 0)]
def PCalls (d w : Nat) : List Inst := callsL d ++ [(1, w), (23, 0)]
theorem callsL_len : ∀ k, (callsL k).length = 2 * k + 2
  | 0 => rfl
  | k + 1 => by rw [callsL, List.length_append, callsL_len k]; simp; omega
theorem callsL_good : ∀ k, k ≤ 1000 → ∀ y ∈ callsL k, goodI y
  | 0, _ => by unfold callsL goodI; decide
  | k + 1, h => fun y hy => by
    rw [callsL] at hy
    rcases List.mem_append.1 hy with hy | hy
    · exact callsL_good k (by omega) y hy
    · simp only [List.mem_cons, List.not_mem_nil, or_false] at hy
      rcases hy with rfl | rfl
      · exact ⟨by show (-9223372036854775808 : Int) ≤ 22; decide, by show (22 : Int) ≤ 9223372036854775807; decide, by simp only; omega⟩
      · exact ⟨by decide, by decide, by decide⟩
theorem PCalls_good {d w : Nat} (hd : d ≤ 1000) (hw : w < 18446744073709551616) : ∀ y ∈ PCalls d w, goodI y := fun y hy => by
  rcases List.mem_append.1 hy with hy | hy
  · exact callsL_good d hd y hy
  · simp only [List.mem_cons, List.not_mem_nil, or_false] at hy
    rcases hy with rfl | rfl
    · exact ⟨by show (-9223372036854775808 : Int) ≤ 1; decide, by show (1 : Int) ≤ 9223372036854775807; decide, hw⟩
    · exact ⟨by decide, by decide, by decide⟩
theorem cellsI_append (a b : List Inst) : cellsI (a ++ b) = cellsI a ++ cellsI b := by simp [cellsI]
theorem OwnS.toMem {w0 w : World} {e : TypeId} {k : Nat} {v : Value} {c : List Value} (h : OwnS w0 w [] e k v c) : Mem w0 w [] [(k, v, c)] := by
  have hm : Mem w0 w [] [] := ⟨h.vars, fun _ h => (List.not_mem_nil h).elim⟩
  rcases h.row with ⟨rfl, rfl⟩ | ⟨x, h1, h2⟩
  · exact hm.add (Rd.nil _ _) (fun hc => (hc rfl).elim)
  · have h3 : Mem w0 w [x] [] := ⟨h2, fun _ h => (List.not_mem_nil h).elim⟩
    exact Mem.yield (L1 := []) h3 h1
theorem rL0 {w : Nat} (hw : w < 18446744073709551616) : runF (PCalls 0 w) b0 100 th0 noWords = (⟨0, 1, [w], [], 0, 0, 0⟩, 310) := by
  have hc : Cd.chk (PCalls 0 w) = true := by simp [Cd.chk, PCalls, callsL, okI, bel, isEnd, hw]
  have h : runF (PCalls 0 w) b0 100 th0 noWords = (⟨0, 1, [w], [], 0, 0, 0⟩, 310) := by rw [runF_S hc]; kernel_rfl
  exact h
theorem rL1 {w : Nat} (hw : w < 18446744073709551616) : runF (PCalls 1 w) b0 100 th0 noWords = (⟨0, 1, [w], [], 0, 0, 0⟩, 310) := by
  have hc : Cd.chk (PCalls 1 w) = true := by simp [Cd.chk, PCalls, callsL, okI, bel, isEnd, hw]
  have h : runF (PCalls 1 w) b0 100 th0 noWords = (⟨0, 1, [w], [], 0, 0, 0⟩, 310) := by rw [runF_S hc]; kernel_rfl
  exact h
theorem rL2 {w : Nat} (hw : w < 18446744073709551616) : runF (PCalls 2 w) b0 100 th0 noWords = (⟨0, 1, [w], [], 0, 0, 0⟩, 310) := by
  have hc : Cd.chk (PCalls 2 w) = true := by simp [Cd.chk, PCalls, callsL, okI, bel, isEnd, hw]
  have h : runF (PCalls 2 w) b0 100 th0 noWords = (⟨0, 1, [w], [], 0, 0, 0⟩, 310) := by rw [runF_S hc]; kernel_rfl
  exact h
theorem rL3 {w : Nat} (hw : w < 18446744073709551616) : runF (PCalls 3 w) b0 100 th0 noWords = (⟨0, 1, [w], [], 0, 0, 0⟩, 310) := by
  have hc : Cd.chk (PCalls 3 w) = true := by simp [Cd.chk, PCalls, callsL, okI, bel, isEnd, hw]
  have h : runF (PCalls 3 w) b0 100 th0 noWords = (⟨0, 1, [w], [], 0, 0, 0⟩, 310) := by rw [runF_S hc]; kernel_rfl
  exact h
theorem rL4 {w : Nat} (hw : w < 18446744073709551616) : runF (PCalls 4 w) b0 100 th0 noWords = (⟨0, 1, [w], [], 0, 0, 0⟩, 310) := by
  have hc : Cd.chk (PCalls 4 w) = true := by simp [Cd.chk, PCalls, callsL, okI, bel, isEnd, hw]
  have h : runF (PCalls 4 w) b0 100 th0 noWords = (⟨0, 1, [w], [], 0, 0, 0⟩, 310) := by rw [runF_S hc]; kernel_rfl
  exact h
theorem rL5 {w : Nat} (hw : w < 18446744073709551616) : runF (PCalls 5 w) b0 100 th0 noWords = (⟨0, 1, [w], [], 0, 0, 0⟩, 310) := by
  have hc : Cd.chk (PCalls 5 w) = true := by simp [Cd.chk, PCalls, callsL, okI, bel, isEnd, hw]
  have h : runF (PCalls 5 w) b0 100 th0 noWords = (⟨0, 1, [w], [], 0, 0, 0⟩, 310) := by rw [runF_S hc]; kernel_rfl
  exact h
theorem rL6 {w : Nat} (hw : w < 18446744073709551616) : runF (PCalls 6 w) b0 100 th0 noWords = (⟨0, 1, [w], [], 0, 0, 0⟩, 310) := by
  have hc : Cd.chk (PCalls 6 w) = true := by simp [Cd.chk, PCalls, callsL, okI, bel, isEnd, hw]
  have h : runF (PCalls 6 w) b0 100 th0 noWords = (⟨0, 1, [w], [], 0, 0, 0⟩, 310) := by rw [runF_S hc]; kernel_rfl
  exact h
theorem rL7 {w : Nat} (hw : w < 18446744073709551616) : runF (PCalls 7 w) b0 100 th0 noWords = (⟨0, 1, [w], [], 0, 0, 0⟩, 310) := by
  have hc : Cd.chk (PCalls 7 w) = true := by simp [Cd.chk, PCalls, callsL, okI, bel, isEnd, hw]
  have h : runF (PCalls 7 w) b0 100 th0 noWords = (⟨0, 1, [w], [], 0, 0, 0⟩, 310) := by rw [runF_S hc]; kernel_rfl
  exact h
theorem rL8 {w : Nat} (hw : w < 18446744073709551616) : runF (PCalls 8 w) b0 100 th0 noWords = (⟨0, 1, [w], [], 0, 0, 0⟩, 310) := by
  have hc : Cd.chk (PCalls 8 w) = true := by simp [Cd.chk, PCalls, callsL, okI, bel, isEnd, hw]
  have h : runF (PCalls 8 w) b0 100 th0 noWords = (⟨0, 1, [w], [], 0, 0, 0⟩, 310) := by rw [runF_S hc]; kernel_rfl
  exact h
theorem rL9 {w : Nat} (hw : w < 18446744073709551616) : runF (PCalls 9 w) b0 100 th0 noWords = (⟨0, 1, [w], [], 0, 0, 0⟩, 310) := by
  have hc : Cd.chk (PCalls 9 w) = true := by simp [Cd.chk, PCalls, callsL, okI, bel, isEnd, hw]
  have h : runF (PCalls 9 w) b0 100 th0 noWords = (⟨0, 1, [w], [], 0, 0, 0⟩, 310) := by rw [runF_S hc]; kernel_rfl
  exact h
theorem rL10 {w : Nat} (hw : w < 18446744073709551616) : runF (PCalls 10 w) b0 100 th0 noWords = (⟨0, 1, [w], [], 0, 0, 0⟩, 310) := by
  have hc : Cd.chk (PCalls 10 w) = true := by simp [Cd.chk, PCalls, callsL, okI, bel, isEnd, hw]
  have h : runF (PCalls 10 w) b0 100 th0 noWords = (⟨0, 1, [w], [], 0, 0, 0⟩, 310) := by rw [runF_S hc]; kernel_rfl
  exact h
theorem rL11 {w : Nat} (hw : w < 18446744073709551616) : runF (PCalls 11 w) b0 100 th0 noWords = (⟨0, 1, [w], [], 0, 0, 0⟩, 310) := by
  have hc : Cd.chk (PCalls 11 w) = true := by simp [Cd.chk, PCalls, callsL, okI, bel, isEnd, hw]
  have h : runF (PCalls 11 w) b0 100 th0 noWords = (⟨0, 1, [w], [], 0, 0, 0⟩, 310) := by rw [runF_S hc]; kernel_rfl
  exact h
theorem rL12 {w : Nat} (hw : w < 18446744073709551616) : runF (PCalls 12 w) b0 100 th0 noWords = (⟨0, 1, [w], [], 0, 0, 0⟩, 310) := by
  have hc : Cd.chk (PCalls 12 w) = true := by simp [Cd.chk, PCalls, callsL, okI, bel, isEnd, hw]
  have h : runF (PCalls 12 w) b0 100 th0 noWords = (⟨0, 1, [w], [], 0, 0, 0⟩, 310) := by rw [runF_S hc]; kernel_rfl
  exact h
theorem rL13 {w : Nat} (hw : w < 18446744073709551616) : runF (PCalls 13 w) b0 100 th0 noWords = (⟨0, 1, [w], [], 0, 0, 0⟩, 310) := by
  have hc : Cd.chk (PCalls 13 w) = true := by simp [Cd.chk, PCalls, callsL, okI, bel, isEnd, hw]
  have h : runF (PCalls 13 w) b0 100 th0 noWords = (⟨0, 1, [w], [], 0, 0, 0⟩, 310) := by rw [runF_S hc]; kernel_rfl
  exact h
theorem rL14 {w : Nat} (hw : w < 18446744073709551616) : runF (PCalls 14 w) b0 100 th0 noWords = (⟨0, 1, [w], [], 0, 0, 0⟩, 310) := by
  have hc : Cd.chk (PCalls 14 w) = true := by simp [Cd.chk, PCalls, callsL, okI, bel, isEnd, hw]
  have h : runF (PCalls 14 w) b0 100 th0 noWords = (⟨0, 1, [w], [], 0, 0, 0⟩, 310) := by rw [runF_S hc]; kernel_rfl
  exact h
theorem rL15 {w : Nat} (hw : w < 18446744073709551616) : runF (PCalls 15 w) b0 100 th0 noWords = (⟨0, 1, [w], [], 0, 0, 0⟩, 310) := by
  have hc : Cd.chk (PCalls 15 w) = true := by simp [Cd.chk, PCalls, callsL, okI, bel, isEnd, hw]
  have h : runF (PCalls 15 w) b0 100 th0 noWords = (⟨0, 1, [w], [], 0, 0, 0⟩, 310) := by rw [runF_S hc]; kernel_rfl
  exact h
theorem rL16 {w : Nat} (hw : w < 18446744073709551616) : runF (PCalls 16 w) b0 100 th0 noWords = (⟨0, 32, [], [1, 3, 5, 7, 9, 11, 13, 15, 17, 19, 21, 23, 25, 27, 29, 31], 0, 0, 0⟩, 300) := by
  have hc : Cd.chk (PCalls 16 w) = true := by simp [Cd.chk, PCalls, callsL, okI, bel, isEnd, hw]
  have h : runF (PCalls 16 w) b0 100 th0 noWords = (⟨0, 32, [], [1, 3, 5, 7, 9, 11, 13, 15, 17, 19, 21, 23, 25, 27, 29, 31], 0, 0, 0⟩, 300) := by rw [runF_S hc]; kernel_rfl
  exact h
theorem rL17 {w : Nat} (hw : w < 18446744073709551616) : runF (PCalls 17 w) b0 100 th0 noWords = (⟨0, 32, [], [1, 3, 5, 7, 9, 11, 13, 15, 17, 19, 21, 23, 25, 27, 29, 31], 0, 0, 0⟩, 300) := by
  have hc : Cd.chk (PCalls 17 w) = true := by simp [Cd.chk, PCalls, callsL, okI, bel, isEnd, hw]
  have h : runF (PCalls 17 w) b0 100 th0 noWords = (⟨0, 32, [], [1, 3, 5, 7, 9, 11, 13, 15, 17, 19, 21, 23, 25, 27, 29, 31], 0, 0, 0⟩, 300) := by rw [runF_S hc]; kernel_rfl
  exact h
theorem rL18 {w : Nat} (hw : w < 18446744073709551616) : runF (PCalls 18 w) b0 100 th0 noWords = (⟨0, 32, [], [1, 3, 5, 7, 9, 11, 13, 15, 17, 19, 21, 23, 25, 27, 29, 31], 0, 0, 0⟩, 300) := by
  have hc : Cd.chk (PCalls 18 w) = true := by simp [Cd.chk, PCalls, callsL, okI, bel, isEnd, hw]
  have h : runF (PCalls 18 w) b0 100 th0 noWords = (⟨0, 32, [], [1, 3, 5, 7, 9, 11, 13, 15, 17, 19, 21, 23, 25, 27, 29, 31], 0, 0, 0⟩, 300) := by rw [runF_S hc]; kernel_rfl
  exact h
theorem rL19 {w : Nat} (hw : w < 18446744073709551616) : runF (PCalls 19 w) b0 100 th0 noWords = (⟨0, 32, [], [1, 3, 5, 7, 9, 11, 13, 15, 17, 19, 21, 23, 25, 27, 29, 31], 0, 0, 0⟩, 300) := by
  have hc : Cd.chk (PCalls 19 w) = true := by simp [Cd.chk, PCalls, callsL, okI, bel, isEnd, hw]
  have h : runF (PCalls 19 w) b0 100 th0 noWords = (⟨0, 32, [], [1, 3, 5, 7, 9, 11, 13, 15, 17, 19, 21, 23, 25, 27, 29, 31], 0, 0, 0⟩, 300) := by rw [runF_S hc]; kernel_rfl
  exact h
theorem rL20 {w : Nat} (hw : w < 18446744073709551616) : runF (PCalls 20 w) b0 100 th0 noWords = (⟨0, 32, [], [1, 3, 5, 7, 9, 11, 13, 15, 17, 19, 21, 23, 25, 27, 29, 31], 0, 0, 0⟩, 300) := by
  have hc : Cd.chk (PCalls 20 w) = true := by simp [Cd.chk, PCalls, callsL, okI, bel, isEnd, hw]
  have h : runF (PCalls 20 w) b0 100 th0 noWords = (⟨0, 32, [], [1, 3, 5, 7, 9, 11, 13, 15, 17, 19, 21, 23, 25, 27, 29, 31], 0, 0, 0⟩, 300) := by rw [runF_S hc]; kernel_rfl
  exact h
theorem rL_in {d w : Nat} (hd : d ≤ 15) (hw : w < 18446744073709551616) : runF (PCalls d w) b0 100 th0 noWords = (⟨0, 1, [w], [], 0, 0, 0⟩, 310) := by
  have h : d = 0 ∨ d = 1 ∨ d = 2 ∨ d = 3 ∨ d = 4 ∨ d = 5 ∨ d = 6 ∨ d = 7 ∨ d = 8 ∨ d = 9 ∨ d = 10 ∨ d = 11 ∨ d = 12 ∨ d = 13 ∨ d = 14 ∨ d = 15 := by omega
  rcases h with rfl | rfl | rfl | rfl | rfl | rfl | rfl | rfl | rfl | rfl | rfl | rfl | rfl | rfl | rfl | rfl
  · exact rL0 hw
  · exact rL1 hw
  · exact rL2 hw
  · exact rL3 hw
  · exact rL4 hw
  · exact rL5 hw
  · exact rL6 hw
  · exact rL7 hw
  · exact rL8 hw
  · exact rL9 hw
  · exact rL10 hw
  · exact rL11 hw
  · exact rL12 hw
  · exact rL13 hw
  · exact rL14 hw
  · exact rL15 hw
theorem rL_out {d w : Nat} (hd : 16 ≤ d) (hd2 : d ≤ 20) (hw : w < 18446744073709551616) : ∃ pc C, runF (PCalls d w) b0 100 th0 noWords = (⟨0, pc, [], C, 0, 0, 0⟩, 300) ∧ C.length = 16 := by
  have h : d = 16 ∨ d = 17 ∨ d = 18 ∨ d = 19 ∨ d = 20 := by omega
  rcases h with rfl | rfl | rfl | rfl | rfl
  · exact ⟨_, _, rL16 hw, rfl⟩
  · exact ⟨_, _, rL17 hw, rfl⟩
  · exact ⟨_, _, rL18 hw, rfl⟩
  · exact ⟨_, _, rL19 hw, rfl⟩
  · exact ⟨_, _, rL20 hw, rfl⟩
end Go.Proofs.Ip
namespace Go.Proofs.Ythpodinbbmgfoaa
open Go.Proofs.Ip Go.Proofs.Pt Go.Proofs.Pg Go.Proofs.Cd Go.RowKit Go.Shelf
theorem infoI4 : (Try.prog.info? 77).map (fun i => (i.zero, i.size, i.bytes)) = some (some (.agg #[.int .i64 0, .int .u64 0]), 2, 16) := by kernel_rfl
set_option maxRecDepth 100000 in
set_option maxHeartbeats 2000000 in
theorem Calls30_out (w0 : Nat) (k : Int) (hk : k < 0 ∨ 20 < k) (w : World) : Calls Try.prog 15 #[.int .i64 k, .int .u64 (w0 : Nat)] w fun e w' => e = .returned (.bool true) ∧ New w w' := by
  have hv := Mem.nil w
  rcases hk with h | h
  · have h1 : decide (k < 0) = true := decide_eq_true h
    clear h
    go_enter Try.func15, Try.ntmps15
    go_wp2_with (first
      | (go_at_call 71; (with_reducible refine (heads30 _).mono ?_); rintro e w1 ⟨rfl, hn1⟩; replace hv := hv.new hn1; clear hn1))
    go_ret
    exact ⟨rfl, hv.below⟩
  · have h1 : decide (k < 0) = false := decide_eq_false (by omega)
    have h2 : decide (20 < k) = true := decide_eq_true h
    clear h
    go_enter Try.func15, Try.ntmps15
    go_wp2_with (first
      | (go_at_call 71; (with_reducible refine (heads30 _).mono ?_); rintro e w1 ⟨rfl, hn1⟩; replace hv := hv.new hn1; clear hn1))
    go_ret
    exact ⟨rfl, hv.below⟩
theorem run_calls {l : List Cd.Inst} {n : Nat} {ni : Int} {pc err : Int} {S : List Nat} {C : List Int} {sn cn : Nat} (hn : n ≤ 1000) (hg : ∀ y ∈ l, goodI y) (h : runF l b0 n th0 noWords = (⟨0, pc, S, C, 0, 0, 0⟩, err)) (hsn : S.length = sn) (hcn : C.length = cn) (hni : ni = (n : Nat)) (lv : Value) (w0 w : World) (L : List (Nat × Array Value)) (R : List (Nat × Value × List Value)) (hv : Mem w0 w L R) (hl : (2, lv, cellsI l) ∈ R) :
    Calls Try.prog 70 #[lv, .int .i64 ni] w fun e w2 => ∃ sa sc ra rc, e = .returned (.tuple #[.agg #[.int .i64 0, .int .i64 pc, .slice sa sn sc, .slice ra cn rc, .int .u64 ((0 : Nat) : Int), .int .i64 0, .int .i64 0], .int .i64 err]) ∧ Mem w0 w2 L ((1, .slice sa sn sc, cellsU S) :: R) := by
  subst hni
  have := run_any n hn lv l hg w0 w L R hv hl
  rw [h] at this
  refine this.mono fun e w2 ⟨sv, cv, g1, g2⟩ => ?_
  obtain ⟨sa, sn', sc, rfl, h1, _⟩ := id (g2.rd Mem.z)
  obtain ⟨ra, rn, rc, rfl, h2, _⟩ := id (g2.rd (Mem.s Mem.z))
  rw [cellsU_len, Nat.mul_one] at h1
  rw [cellsN_len, Nat.mul_one] at h2
  obtain rfl : sn' = sn := by simp only at h1; omega
  obtain rfl : rn = cn := by simp only at h2; omega
  exact ⟨sa, sc, ra, rc, g1, g2.dropR2⟩
theorem runc_one {l : List Cd.Inst} {n : Nat} {ni : Int} {pc err : Int} {x : Nat} (hn : n ≤ 1000) (hg : ∀ y ∈ l, goodI y) (h : runF l b0 n th0 noWords = (⟨0, pc, [x], [], 0, 0, 0⟩, err)) (hni : ni = (n : Nat)) (lv : Value) (w0 w : World) (L : List (Nat × Array Value)) (R : List (Nat × Value × List Value)) (hv : Mem w0 w L R) (hl : (2, lv, cellsI l) ∈ R) :
    Calls Try.prog 70 #[lv, .int .i64 ni] w fun e w2 => ∃ sb so sc ra rc, e = .returned (.tuple #[.agg #[.int .i64 0, .int .i64 pc, .slice (some ⟨sb, so, none⟩) 1 sc, .slice ra 0 rc, .int .u64 ((0 : Nat) : Int), .int .i64 0, .int .i64 0], .int .i64 err]) ∧ Mem w0 w2 L ((1, .slice (some ⟨sb, so, none⟩) 1 sc, cellsU [x]) :: R) :=
  (run_calls hn hg h rfl rfl hni lv w0 w L R hv hl).mono fun e w2 ⟨sa, sc, ra, rc, g1, g2⟩ => by
    obtain ⟨sb, so, sc', e⟩ := slice1 (g2.rd Mem.z) (n := 1) rfl (by omega)
    cases e
    exact ⟨sb, so, _, ra, rc, g1, g2⟩
set_option maxRecDepth 100000 in
set_option maxHeartbeats 4000000 in
theorem Calls30_in (d w : Nat) (hd : d ≤ 20) (hw : w < 18446744073709551616) (wl : World) : Calls Try.prog 15 #[.int .i64 (d : Nat), .int .u64 (w : Nat)] wl fun e w' => e = .returned (.bool true) ∧ New wl w' := by
  have GP := Lib.hid (PCalls_good (d := d) (w := w) (by omega) hw)
  have HW := Lib.hid hw
  have h1 : decide ((d : Int) < 0) = false := decide_eq_false (by omega)
  have h2 : decide (20 < (d : Int)) = false := decide_eq_false (by omega)
  have hd2 : (d : Int) ≤ 20 := by omega
  have hv0 := Vars.nil wl
  have ho : OwnS wl (wl.alloc (.cells #[.int .i64 22, .int .u64 2, .int .i64 0, .int .u64 0] 77)) [] 77 2 (.slice (some ⟨wl.heap.size, 0, none⟩) 2 2) (cellsI (callsL 0)) :=
    ⟨hv0.new (made_alloc wl _ _).new, .inr ⟨(wl.heap.size, #[.int .i64 22, .int .u64 2, .int .i64 0, .int .u64 0]), ⟨2, 2, rfl, rfl, Nat.le_refl _, by unfold maxLen; omega, rfl, rfl⟩, hv0.madeAt ⟨rfl, made_alloc wl _ _⟩⟩⟩
  clear hw hv0
  go_enter Try.func15, Try.ntmps15
  go_wp2
  go_loopw [5, 6] (fun v i wr => ∃ k : Nat, k ≤ d ∧ i = .int .i64 (k : Nat) ∧ OwnS wl wr [] 77 2 v (cellsI (callsL k))) (fun _ i _ => d - (intOf i).toNat)
  case atStart => exact ⟨0, by omega, rfl, ho⟩
  case round =>
    clear ho
    obtain ⟨k, hk, rfl, ho⟩ := hrel
    by_cases hk2 : k < d
    · have hki : (k : Int) < (d : Int) := by omega
      have hk3 : (k : Int) ≤ 20 := by omega
      have PL : Hid ((callsL k).length ≤ 100) := Lib.hid (by rw [callsL_len]; omega)
      have q1 : IntKind.u64.wrap (2 * (k : Int) + 4) = 2 * (k : Int) + 4 := IntWalk.u64_in _ (by omega)
      go_wp2_with (first
        | ((with_reducible refine at_append (t := 57) ?_); refine wl_app rfl rfl (ho.alloc _ _) (.agg #[.int .i64 0, .int .u64 0]) 16 Try.underlying57 infoI4 rfl (by decide) rfl (rd_alloc _ 2 2 #[.int .i64 22, .int .u64 (2 * (k : Int) + 4), .int .i64 23, .int .u64 0] _ rfl (by unfold maxLen; omega)) (fun x hx => by simp at hx; rcases hx with rfl | rfl | rfl | rfl <;> rfl) (by have := PL.out; simp only [len_cellsI, List.length_cons, List.length_nil]; unfold maxLen; omega) (by have := PL.out; simp only [len_cellsI, List.length_cons, List.length_nil]; omega) ?_; clear ho; intro v2 w3 ho))
      go_roundw
      case rel => exact ⟨k + 1, by omega, by go_num, by rw [callsL, cellsI_append]; exact ho⟩
      case measure => simp [intOf]; omega
    · have hki : ¬ (k : Int) < (d : Int) := by omega
      obtain rfl : k = d := by omega
      have PL : Hid ((callsL k).length ≤ 100) := Lib.hid (by rw [callsL_len]; omega)
      by_cases h16 : k ≤ 15
      · have h3 : decide (16 < (k : Int) + 1) = false := decide_eq_false (by omega)
        have HD := Lib.hid h16
        go_wp2_with (first
          | ((with_reducible refine at_append (t := 57) ?_); refine wl_app rfl rfl (ho.alloc _ _) (.agg #[.int .i64 0, .int .u64 0]) 16 Try.underlying57 infoI4 rfl (by decide) rfl (rd_alloc _ 2 2 #[.int .i64 1, .int .u64 (w : Nat), .int .i64 23, .int .u64 0] _ rfl (by unfold maxLen; omega)) (fun x hx => by simp at hx; rcases hx with rfl | rfl | rfl | rfl <;> rfl) (by have := PL.out; simp only [len_cellsI, List.length_cons, List.length_nil]; unfold maxLen; omega) (by have := PL.out; simp only [len_cellsI, List.length_cons, List.length_nil]; omega) ?_; clear ho; intro v2 w3 ho))
        have hv := OwnS.toMem ho
        rw [show cellsI (callsL k) ++ (#[.int .i64 1, .int .u64 (w : Nat), .int .i64 23, .int .u64 0] : Array Value).toList = cellsI (PCalls k w) from by unfold PCalls; rw [cellsI_append]; rfl] at hv
        clear ho
        go_wp2_with (first
          | (go_at_call 70; (with_reducible refine (runc_one (l := PCalls k w) (ni := 100) (by omega) GP.out (rL_in HD.out HW.out) (by omega) _ _ _ _ _ hv Mem.z).mono ?_); rintro e w1 ⟨sb1, so1, sc1, ra1, rc1, rfl, hv1⟩; replace hv := hv1; clear hv1)
          | ((with_reducible refine at_alloc (T := 79) (dst := some 7) ?_); refine wl_newb rfl #[.int .i64 0, .int .i64 0, .slice none 0 0, .slice none 0 0, .int .u64 0, .int .i64 0, .int .i64 0] 79 (fun _ => rfl) ?_; intro b7 w2 hm2; replace hv := hv.madeAt hm2; clear hm2)
          | ((with_reducible refine at_store (T := 79) ?_); refine wl_stv rfl b7 rfl _ rfl _ (hv.vars.row (by first | exact .head _ | exact .tail _ (.head _) | exact .tail _ (.tail _ (.head _)) | exact .tail _ (.tail _ (.tail _ (.head _))) | exact .tail _ (.tail _ (.tail _ (.tail _ (.head _)))) | exact .tail _ (.tail _ (.tail _ (.tail _ (.tail _ (.head _))))) | exact .tail _ (.tail _ (.tail _ (.tail _ (.tail _ (.tail _ (.head _)))))) | exact .tail _ (.tail _ (.tail _ (.tail _ (.tail _ (.tail _ (.tail _ (.head _))))))))) (hv.vars.sft (by first | exact .head _ | exact .tail _ (.head _) | exact .tail _ (.tail _ (.head _)) | exact .tail _ (.tail _ (.tail _ (.head _))) | exact .tail _ (.tail _ (.tail _ (.tail _ (.head _)))) | exact .tail _ (.tail _ (.tail _ (.tail _ (.tail _ (.head _))))) | exact .tail _ (.tail _ (.tail _ (.tail _ (.tail _ (.tail _ (.head _)))))) | exact .tail _ (.tail _ (.tail _ (.tail _ (.tail _ (.tail _ (.tail _ (.head _))))))))) 7 infoT rfl rfl (by simp [Value.oneCell']) ?_; intro w2 hw2; (first | (replace hv := hv.set 0 rfl hw2) | (replace hv := hv.set 1 rfl hw2) | (replace hv := hv.set 2 rfl hw2) | (replace hv := hv.set 3 rfl hw2) | (replace hv := hv.set 4 rfl hw2) | (replace hv := hv.set 5 rfl hw2) | (replace hv := hv.set 6 rfl hw2) | (replace hv := hv.set 7 rfl hw2)); clear hw2; simp only [List.set] at hv)
          | (go_at_call 71; (with_reducible refine (heads30 _).mono ?_); rintro e w1 ⟨rfl, hn1⟩; replace hv := hv.new hn1; clear hn1)
          | ((with_reducible refine at_load (T := 29) ?_); refine wl_ldc rfl _ _ rfl _ (hv.vars.row (by first | exact .head _ | exact .tail _ (.head _) | exact .tail _ (.tail _ (.head _)) | exact .tail _ (.tail _ (.tail _ (.head _))) | exact .tail _ (.tail _ (.tail _ (.tail _ (.head _)))) | exact .tail _ (.tail _ (.tail _ (.tail _ (.tail _ (.head _))))) | exact .tail _ (.tail _ (.tail _ (.tail _ (.tail _ (.tail _ (.head _)))))) | exact .tail _ (.tail _ (.tail _ (.tail _ (.tail _ (.tail _ (.tail _ (.head _))))))))) _ Try.underlying29 rfl _ rfl ?_)
          | ((with_reducible refine at_load (T := 32) ?_); refine wl_ldc rfl _ _ rfl _ (hv.vars.row (by first | exact .head _ | exact .tail _ (.head _) | exact .tail _ (.tail _ (.head _)) | exact .tail _ (.tail _ (.tail _ (.head _))) | exact .tail _ (.tail _ (.tail _ (.tail _ (.head _)))) | exact .tail _ (.tail _ (.tail _ (.tail _ (.tail _ (.head _))))) | exact .tail _ (.tail _ (.tail _ (.tail _ (.tail _ (.tail _ (.head _)))))) | exact .tail _ (.tail _ (.tail _ (.tail _ (.tail _ (.tail _ (.tail _ (.head _))))))))) _ Try.underlying32 rfl _ rfl ?_)
          | ((with_reducible refine at_load (T := 3) ?_); refine wl_ldc rfl _ _ rfl _ (hv.vars.row (by first | exact .head _ | exact .tail _ (.head _) | exact .tail _ (.tail _ (.head _)) | exact .tail _ (.tail _ (.tail _ (.head _))) | exact .tail _ (.tail _ (.tail _ (.tail _ (.head _)))) | exact .tail _ (.tail _ (.tail _ (.tail _ (.tail _ (.head _))))) | exact .tail _ (.tail _ (.tail _ (.tail _ (.tail _ (.tail _ (.head _)))))) | exact .tail _ (.tail _ (.tail _ (.tail _ (.tail _ (.tail _ (.tail _ (.head _))))))))) _ Try.underlying3 rfl _ rfl ?_)
          | ((with_reducible refine at_load (T := 22) ?_); refine wl_rd rfl (c := cellsU [w]) (hv.rd (by first | exact Mem.z | exact Mem.s (Mem.z) | exact Mem.s (Mem.s (Mem.z)) | exact Mem.s (Mem.s (Mem.s (Mem.z))) | exact Mem.s (Mem.s (Mem.s (Mem.s (Mem.z)))) | exact Mem.s (Mem.s (Mem.s (Mem.s (Mem.s (Mem.z))))) | exact Mem.s (Mem.s (Mem.s (Mem.s (Mem.s (Mem.s (Mem.z)))))) | exact Mem.s (Mem.s (Mem.s (Mem.s (Mem.s (Mem.s (Mem.s (Mem.z))))))) | exact Mem.s (Mem.s (Mem.s (Mem.s (Mem.s (Mem.s (Mem.s (Mem.s (Mem.z)))))))) | exact Mem.s (Mem.s (Mem.s (Mem.s (Mem.s (Mem.s (Mem.s (Mem.s (Mem.s (Mem.z))))))))) | exact Mem.s (Mem.s (Mem.s (Mem.s (Mem.s (Mem.s (Mem.s (Mem.s (Mem.s (Mem.s (Mem.z)))))))))) | exact Mem.s (Mem.s (Mem.s (Mem.s (Mem.s (Mem.s (Mem.s (Mem.s (Mem.s (Mem.s (Mem.s (Mem.z))))))))))) | exact Mem.s (Mem.s (Mem.s (Mem.s (Mem.s (Mem.s (Mem.s (Mem.s (Mem.s (Mem.s (Mem.s (Mem.s (Mem.z)))))))))))) | exact Mem.s (Mem.s (Mem.s (Mem.s (Mem.s (Mem.s (Mem.s (Mem.s (Mem.s (Mem.s (Mem.s (Mem.s (Mem.s (Mem.z))))))))))))) | exact Mem.s (Mem.s (Mem.s (Mem.s (Mem.s (Mem.s (Mem.s (Mem.s (Mem.s (Mem.s (Mem.s (Mem.s (Mem.s (Mem.s (Mem.z)))))))))))))) | exact Mem.s (Mem.s (Mem.s (Mem.s (Mem.s (Mem.s (Mem.s (Mem.s (Mem.s (Mem.s (Mem.s (Mem.s (Mem.s (Mem.s (Mem.s (Mem.z))))))))))))))))) 0 rfl _ Try.underlying22 rfl _ rfl ?_))
        go_ret
        exact ⟨rfl, hv.below⟩
      · have h3 : decide (16 < (k : Int) + 1) = true := decide_eq_true (by omega)
        obtain ⟨pc, C, hr, hC⟩ := rL_out (d := k) (w := w) (by omega) hd HW.out
        have HR := Lib.hid hr
        have HC := Lib.hid hC
        clear hr hC h16
        go_wp2_with (first
          | ((with_reducible refine at_append (t := 57) ?_); refine wl_app rfl rfl (ho.alloc _ _) (.agg #[.int .i64 0, .int .u64 0]) 16 Try.underlying57 infoI4 rfl (by decide) rfl (rd_alloc _ 2 2 #[.int .i64 1, .int .u64 (w : Nat), .int .i64 23, .int .u64 0] _ rfl (by unfold maxLen; omega)) (fun x hx => by simp at hx; rcases hx with rfl | rfl | rfl | rfl <;> rfl) (by have := PL.out; simp only [len_cellsI, List.length_cons, List.length_nil]; unfold maxLen; omega) (by have := PL.out; simp only [len_cellsI, List.length_cons, List.length_nil]; omega) ?_; clear ho; intro v2 w3 ho))
        have hv := OwnS.toMem ho
        rw [show cellsI (callsL k) ++ (#[.int .i64 1, .int .u64 (w : Nat), .int .i64 23, .int .u64 0] : Array Value).toList = cellsI (PCalls k w) from by unfold PCalls; rw [cellsI_append]; rfl] at hv
        clear ho
        go_wp2_with (first
          | (go_at_call 70; (with_reducible refine (run_calls (l := PCalls k w) (ni := 100) (by omega) GP.out HR.out rfl HC.out (by omega) _ _ _ _ _ hv Mem.z).mono ?_); rintro e w1 ⟨sa1, sc1, ra1, rc1, rfl, hv1⟩; replace hv := hv1; clear hv1)
          | ((with_reducible refine at_alloc (T := 79) (dst := some 7) ?_); refine wl_newb rfl #[.int .i64 0, .int .i64 0, .slice none 0 0, .slice none 0 0, .int .u64 0, .int .i64 0, .int .i64 0] 79 (fun _ => rfl) ?_; intro b7 w2 hm2; replace hv := hv.madeAt hm2; clear hm2)
          | ((with_reducible refine at_store (T := 79) ?_); refine wl_stv rfl b7 rfl _ rfl _ (hv.vars.row (by first | exact .head _ | exact .tail _ (.head _) | exact .tail _ (.tail _ (.head _)) | exact .tail _ (.tail _ (.tail _ (.head _))) | exact .tail _ (.tail _ (.tail _ (.tail _ (.head _)))) | exact .tail _ (.tail _ (.tail _ (.tail _ (.tail _ (.head _))))) | exact .tail _ (.tail _ (.tail _ (.tail _ (.tail _ (.tail _ (.head _)))))) | exact .tail _ (.tail _ (.tail _ (.tail _ (.tail _ (.tail _ (.tail _ (.head _))))))))) (hv.vars.sft (by first | exact .head _ | exact .tail _ (.head _) | exact .tail _ (.tail _ (.head _)) | exact .tail _ (.tail _ (.tail _ (.head _))) | exact .tail _ (.tail _ (.tail _ (.tail _ (.head _)))) | exact .tail _ (.tail _ (.tail _ (.tail _ (.tail _ (.head _))))) | exact .tail _ (.tail _ (.tail _ (.tail _ (.tail _ (.tail _ (.head _)))))) | exact .tail _ (.tail _ (.tail _ (.tail _ (.tail _ (.tail _ (.tail _ (.head _))))))))) 7 infoT rfl rfl (by simp [Value.oneCell']) ?_; intro w2 hw2; (first | (replace hv := hv.set 0 rfl hw2) | (replace hv := hv.set 1 rfl hw2) | (replace hv := hv.set 2 rfl hw2) | (replace hv := hv.set 3 rfl hw2) | (replace hv := hv.set 4 rfl hw2) | (replace hv := hv.set 5 rfl hw2) | (replace hv := hv.set 6 rfl hw2) | (replace hv := hv.set 7 rfl hw2)); clear hw2; simp only [List.set] at hv)
          | (go_at_call 71; (with_reducible refine (heads30 _).mono ?_); rintro e w1 ⟨rfl, hn1⟩; replace hv := hv.new hn1; clear hn1)
          | ((with_reducible refine at_load (T := 29) ?_); refine wl_ldc rfl _ _ rfl _ (hv.vars.row (by first | exact .head _ | exact .tail _ (.head _) | exact .tail _ (.tail _ (.head _)) | exact .tail _ (.tail _ (.tail _ (.head _))) | exact .tail _ (.tail _ (.tail _ (.tail _ (.head _)))) | exact .tail _ (.tail _ (.tail _ (.tail _ (.tail _ (.head _))))) | exact .tail _ (.tail _ (.tail _ (.tail _ (.tail _ (.tail _ (.head _)))))) | exact .tail _ (.tail _ (.tail _ (.tail _ (.tail _ (.tail _ (.tail _ (.head _))))))))) _ Try.underlying29 rfl _ rfl ?_)
          | ((with_reducible refine at_load (T := 32) ?_); refine wl_ldc rfl _ _ rfl _ (hv.vars.row (by first | exact .head _ | exact .tail _ (.head _) | exact .tail _ (.tail _ (.head _)) | exact .tail _ (.tail _ (.tail _ (.head _))) | exact .tail _ (.tail _ (.tail _ (.tail _ (.head _)))) | exact .tail _ (.tail _ (.tail _ (.tail _ (.tail _ (.head _))))) | exact .tail _ (.tail _ (.tail _ (.tail _ (.tail _ (.tail _ (.head _)))))) | exact .tail _ (.tail _ (.tail _ (.tail _ (.tail _ (.tail _ (.tail _ (.head _))))))))) _ Try.underlying32 rfl _ rfl ?_)
          | ((with_reducible refine at_load (T := 3) ?_); refine wl_ldc rfl _ _ rfl _ (hv.vars.row (by first | exact .head _ | exact .tail _ (.head _) | exact .tail _ (.tail _ (.head _)) | exact .tail _ (.tail _ (.tail _ (.head _))) | exact .tail _ (.tail _ (.tail _ (.tail _ (.head _)))) | exact .tail _ (.tail _ (.tail _ (.tail _ (.tail _ (.head _))))) | exact .tail _ (.tail _ (.tail _ (.tail _ (.tail _ (.tail _ (.head _)))))) | exact .tail _ (.tail _ (.tail _ (.tail _ (.tail _ (.tail _ (.tail _ (.head _))))))))) _ Try.underlying3 rfl _ rfl ?_))
        go_ret
        exact ⟨rfl, hv.below⟩
theorem InterpCalls_any (k : Int) (w : Nat) (hw : w < 18446744073709551616) (wl : World) : Calls Try.prog 15 #[.int .i64 k, .int .u64 (w : Nat)] wl fun e w' => e = .returned (.bool true) ∧ New wl w' := by
  by_cases h : k < 0 ∨ 20 < k
  · exact Calls30_out w k h wl
  · obtain ⟨d, rfl⟩ : ∃ d : Nat, k = (d : Nat) := ⟨k.toNat, by omega⟩
    exact Calls30_in d w (by omega) hw wl
end Go.Proofs.Ythpodinbbmgfoaa
