/-
  Rings (layer 7): how long, where; numbers read and written one behind the other.
-/
import Derived.Test.YtcelehhaggoijaaQuMem2
set_option linter.unusedVariables false
set_option linter.unusedSimpArgs false
namespace Go
open Go.RowKit
section
variable {P : Program} {o : Oper} {a : Act}
/-- A part of one, a struct, stored. -/
theorem run_stp (w : World) (ty : TypeId) (x y : Operand) (ho : o.op = .store ty x y) (b off : Nat) (cells : Array Value) (hx : a.eval x = .pointer (some ⟨b, off, none⟩)) (hy : a.eval y = .agg cells) (n : Nat) (hi : (P.info? ty).map (·.size) = some n)
    (hc : cells.size = n) (h1 : cells.all (·.oneCell') = true) (hsoft : w.soft b = true) (hs : off + n ≤ (w.rowD b).size) : ∃ w', (execOp a.eval o).run P w = .ok .skip w' ∧ Wrote w w' b (splice (w.rowD b) off cells) := by
  have e := setCells_row cells.toList w b off hsoft (by simp; omega)
  have ht : w.there b off cells.size := fun j hj => by
    obtain ⟨t, ht⟩ := soft_heap hsoft
    refine ⟨?_, frozen_of_row w b _ _ t ht⟩
    rw [cell_rowD, Array.getElem?_eq_getElem (by omega)]; rfl
  refine ⟨w.setRow b (splice (w.rowD b) off cells), ?_, wrote_setRow hsoft⟩
  unfold execOp
  simp only [ho, hx, hy, Instr.storeAt, Instr.sureAddr, Sem.run_bind, Sem.run_pure, Result.andThen_ok, run_storeVar_mid w b off ty cells ht (by rw [hc]; exact hi) h1, e]
end
namespace Any
section
variable {P : Program} {ops : Array Oper} {β : Base} {S : Nat → Stat} {D : Nat → Kind} {Q : Act → Env → Prop} {k : Nat} {rest : List Oper} {a : Act} {E : Env}
variable {dst : Option Tmp} {ty T : TypeId} {pos : String} {after : Array Edge} {g : Option (Nat × Bool)} {x y : Operand}
theorem E_putp {i B off : Nat} {c0 c : Array Value} (hw : Region.wanted (⟨dst, .store T x y, ty, pos, after, g⟩ : Oper) (yielded ops a.tmps) = true) (hD : D k = .put) (hS : (S k).write = some i) (hx : a.eval x = .pointer (some ⟨B, off, none⟩)) (hE : E i = some (B, c0))
    (hy : a.eval y = .agg c) (n : Nat) (hi : (P.info? T).map (·.size) = some n) (hc : c.size = n) (h0 : off + n ≤ c0.size) (h1 : c.all (·.oneCell') = true) {c' : Array Value} (hs : splice c0 off c = c')
    (hk : wpE P ops β S D Q (k + 1) rest (a.put dst undef) (E.put i (B, c'))) : wpE P ops β S D Q k (⟨dst, .store T x y, ty, pos, after, g⟩ :: rest) a E :=
  E_put hw hD hS rfl hx hE (by rw [hy]; exact hs) (fun w hr hs' => by
    obtain ⟨w', r1, r2⟩ := run_stp (P := P) (a := a) (o := ⟨dst, .store T x y, ty, pos, after, g⟩) w T x y rfl B off c hx hy n hi hc h1 hs' (by rw [hr]; exact h0)
    rw [hr, hs] at r2
    exact ⟨w', r1, r2⟩) hk
end
end Any
end Go
namespace Go.Proofs.Qu
open Go Go.RowKit Go.Proofs.Nm
/-- How many descriptors a ring may have. -/
def okN (n : Nat) : Prop := n = 1 ∨ n = 2 ∨ n = 4 ∨ n = 8 ∨ n = 16
def backN (n : Nat) : Nat := (16 * n + 4 + 2 * n + 3) / 4 * 4
def sizeN (n : Nat) : Nat := backN n + 4 + 8 * n
theorem okN.le {n : Nat} (h : okN n) : 1 ≤ n ∧ n ≤ 16 := by unfold okN at h; omega
theorem okN.size {n : Nat} (h : okN n) : sizeN n ≤ 424 ∧ 16 * n + 4 + 2 * n ≤ backN n ∧ backN n + 4 + 8 * n = sizeN n := by
  unfold sizeN backN
  have := h.le
  omega
theorem and_mask (i k : Nat) (hi : i < 65536) (hk : k ≤ 16) : bits .and .i64 (i : Int) (((2 ^ k - 1 : Nat)) : Int) = ((i % 2 ^ k : Nat) : Int) := by
  have hp : 2 ^ k ≤ 65536 := Nat.pow_le_pow_right (n := 2) (by omega) hk
  have e : (BitVec.ofInt IntKind.i64.bits (i : Int) &&& BitVec.ofInt IntKind.i64.bits ((2 ^ k - 1 : Nat) : Int)).toNat = i % 2 ^ k := by
    rw [BitVec.toNat_and, BitVec.ofInt_natCast, BitVec.ofInt_natCast, BitVec.toNat_ofNat, BitVec.toNat_ofNat]
    have h64 : (2 : Nat) ^ IntKind.i64.bits = 18446744073709551616 := by decide
    rw [h64, Nat.mod_eq_of_lt (by omega), Nat.mod_eq_of_lt (by omega), Nat.and_two_pow_sub_one_eq_mod]
  have hl : i % 2 ^ k < 65536 := Nat.lt_of_le_of_lt (Nat.mod_le _ _) hi
  unfold bits
  simp only [e]
  exact IntWalk.i64_in _ (by omega)
end Go.Proofs.Qu
namespace Go.Proofs.Ytcelehhaggoijaa
open Go.Proofs.Qu Go.Proofs.Nm Go.RowKit Go.Proofs
set_option maxRecDepth 100000 in
set_option maxHeartbeats 4000000 in
theorem right_ok (n : Nat) (h : okN n) (w : World) : Calls Try.prog 45 #[.int .i64 (n : Nat)] w fun e w' => e = .returned (.bool true) ∧ New w w' := by
  have hv := Mem.nil w
  rcases h with rfl | rfl | rfl | rfl | rfl
  all_goals
    go_enter Try.func45, Try.ntmps45
    go_wp2
    go_ret
    exact ⟨rfl, hv.below⟩
set_option maxRecDepth 100000 in
set_option maxHeartbeats 4000000 in
theorem avail_ok (n : Nat) (h : okN n) (w : World) : Calls Try.prog 55 #[.int .i64 (n : Nat)] w fun e w' => e = .returned (.int .i64 (16 * n : Nat)) ∧ New w w' := by
  have hv := Mem.nil w
  rcases h with rfl | rfl | rfl | rfl | rfl
  all_goals
    go_enter Try.func55, Try.ntmps55
    go_wp2
    go_ret
    exact ⟨rfl, hv.below⟩
set_option maxRecDepth 100000 in
set_option maxHeartbeats 4000000 in
theorem back_ok (n : Nat) (h : okN n) (w : World) : Calls Try.prog 46 #[.int .i64 (n : Nat)] w fun e w' => e = .returned (.int .i64 (backN n : Nat)) ∧ New w w' := by
  have hv := Mem.nil w
  rcases h with rfl | rfl | rfl | rfl | rfl
  all_goals
    go_enter Try.func46, Try.ntmps46
    go_wp2_with (first
      | (go_at_call 55; go_in))
    go_ret
    exact ⟨rfl, hv.below⟩
set_option maxRecDepth 100000 in
set_option maxHeartbeats 4000000 in
theorem Size_ok (n : Nat) (h : okN n) (w : World) : Calls Try.prog 23 #[.int .i64 (n : Nat)] w fun e w' => e = .returned (.int .i64 (sizeN n : Nat)) ∧ New w w' := by
  have hv := Mem.nil w
  obtain ⟨bk, hbk⟩ : ∃ bk, backN n = bk := ⟨_, rfl⟩
  have kB : ∀ w, Calls Try.prog 46 #[.int .i64 (n : Nat)] w fun e w' => e = .returned (.int .i64 (bk : Nat)) ∧ New w w' := fun w => by have := back_ok n h w; rw [hbk] at this; exact this
  have kR : ∀ w, Calls Try.prog 45 #[.int .i64 (n : Nat)] w fun e w' => e = .returned (.bool true) ∧ New w w' := fun w => right_ok n h w
  have h1 := h.size
  have h2 := h.le
  rw [hbk] at h1
  have q1 : IntKind.i64.wrap ((bk : Int) + 4) = (bk : Int) + 4 := IntWalk.i64_in _ (by omega)
  have q2 : IntKind.i64.wrap (8 * (n : Int)) = 8 * (n : Int) := IntWalk.i64_in _ (by omega)
  have q3 : IntKind.i64.wrap ((bk : Int) + 4 + 8 * (n : Int)) = ((sizeN n : Nat) : Int) := by rw [← h1.2.2]; rw [IntWalk.i64_in _ (by omega)]; omega
  clear h1 h2 h hbk
  go_enter Try.func23, Try.ntmps23
  go_wp2_with (first
    | (go_at_call 45; (with_reducible refine (kR _).mono ?_); rintro e w1 ⟨rfl, hn1⟩; replace hv := hv.new hn1; clear hn1)
    | (go_at_call 46; (with_reducible refine (kB _).mono ?_); rintro e w1 ⟨rfl, hn1⟩; replace hv := hv.new hn1; clear hn1))
  go_ret
  exact ⟨rfl, hv.below⟩
set_option maxRecDepth 100000 in
set_option maxHeartbeats 4000000 in
theorem RingCheck_ok (mb mo mn mc base n : Nat) (hn : okN n) (hb : base + sizeN n ≤ mn) (hm : mn ≤ 8192) (w : World) : Calls Try.prog 22 #[(.agg #[(.slice (some ⟨mb, mo, none⟩) mn mc)]), .int .i64 (base : Nat), .int .i64 (n : Nat)] w fun e w' => e = .returned (.bool true) ∧ New w w' := by
  have hv := Mem.nil w
  have HN := Lib.hid hn
  have HM := Lib.hid hm
  obtain ⟨sz, hsz⟩ : ∃ sz, sizeN n = sz := ⟨_, rfl⟩
  have h24 : 24 ≤ sz := by have := hn.size; have := hn.le; rw [← hsz]; unfold sizeN backN; omega
  have kS : ∀ w, Calls Try.prog 23 #[.int .i64 (n : Nat)] w fun e w' => e = .returned (.int .i64 (sz : Nat)) ∧ New w w' := fun w => by have := Size_ok n hn w; rw [hsz] at this; exact this
  rw [hsz] at hb
  have y1 : decide ((0 : Int) < (sz : Int)) = true := decide_eq_true (by omega)
  have z1 : decide (0 < sz) = true := decide_eq_true (by omega)
  have y2 : decide ((0 : Int) ≤ (base : Int)) = true := decide_eq_true (by omega)
  have y3 : decide ((sz : Int) ≤ (mn : Int)) = true := decide_eq_true (by omega)
  have z3 : decide (sz ≤ mn) = true := decide_eq_true (by omega)
  have q1 : IntKind.i64.wrap ((mn : Int) - (sz : Int)) = (mn : Int) - (sz : Int) := IntWalk.i64_in _ (by omega)
  have y4 : decide ((base : Int) ≤ (mn : Int) - (sz : Int)) = true := decide_eq_true (by omega)
  clear hn hb hm hsz h24
  go_enter Try.func22, Try.ntmps22
  go_wp2_with (first
    | ((with_reducible refine at_box (T := 25) (dst := some 3) ?_); refine wl_newb rfl #[(.slice (some ⟨mb, mo, none⟩) mn mc)] 25 (fun _ => rfl) ?_; intro b3 w2 hm2; replace hv := hv.madeAt hm2; clear hm2)
    | ((with_reducible refine at_load (T := 25) ?_); refine wl_ldv rfl b3 rfl _ (hv.vars.row (by first | exact .head _ | exact .tail _ (.head _) | exact .tail _ (.tail _ (.head _)) | exact .tail _ (.tail _ (.tail _ (.head _))) | exact .tail _ (.tail _ (.tail _ (.tail _ (.head _)))) | exact .tail _ (.tail _ (.tail _ (.tail _ (.tail _ (.head _))))) | exact .tail _ (.tail _ (.tail _ (.tail _ (.tail _ (.tail _ (.head _)))))) | exact .tail _ (.tail _ (.tail _ (.tail _ (.tail _ (.tail _ (.tail _ (.head _))))))))) 1 _ Try.underlying25 rfl infoM (by decide) rfl ?_)
    | ((with_reducible refine at_load (T := 23) ?_); refine wl_ldc rfl b3 0 rfl _ (hv.vars.row (by first | exact .head _ | exact .tail _ (.head _) | exact .tail _ (.tail _ (.head _)) | exact .tail _ (.tail _ (.tail _ (.head _))) | exact .tail _ (.tail _ (.tail _ (.tail _ (.head _)))) | exact .tail _ (.tail _ (.tail _ (.tail _ (.tail _ (.head _))))) | exact .tail _ (.tail _ (.tail _ (.tail _ (.tail _ (.tail _ (.head _)))))) | exact .tail _ (.tail _ (.tail _ (.tail _ (.tail _ (.tail _ (.tail _ (.head _))))))))) _ Try.underlying23 rfl (.slice (some ⟨mb, mo, none⟩) mn mc) rfl ?_)
    | (go_at_call 23; (with_reducible refine (kS _).mono ?_); rintro e w1 ⟨rfl, hn1⟩; replace hv := hv.new hn1; clear hn1)
    | (go_at_call 44; (with_reducible refine (MCheck_ok _ _ _ _ HM.out _).mono ?_); rintro e w1 ⟨rfl, hn1⟩; replace hv := hv.new hn1; clear hn1))
  go_ret
  exact ⟨rfl, hv.below⟩
set_option maxRecDepth 100000 in
set_option maxHeartbeats 4000000 in
theorem place_ok (n i s : Nat) (hn : okN n) (hi : i < 65536) (hs : s ≤ 8) (w : World) : Calls Try.prog 56 #[.int .i64 (n : Nat), .int .u16 (i : Nat), .int .i64 (s : Nat)] w fun e w' => e = .returned (.int .i64 (4 + s * (i % n) : Nat)) ∧ New w w' := by
  have hv := Mem.nil w
  have hc : IntKind.i64.wrap (i : Int) = (i : Int) := IntWalk.i64_in _ (by omega)
  have hk : ∃ k, k ≤ 4 ∧ n = 2 ^ k := by
    rcases hn with rfl | rfl | rfl | rfl | rfl
    · exact ⟨0, by omega, rfl⟩
    · exact ⟨1, by omega, rfl⟩
    · exact ⟨2, by omega, rfl⟩
    · exact ⟨3, by omega, rfl⟩
    · exact ⟨4, by omega, rfl⟩
  have hle := hn.le
  have q0 : IntKind.i64.wrap ((n : Int) - 1) = ((n - 1 : Nat) : Int) := by rw [IntWalk.i64_in _ (by omega)]; omega
  have q1 : bits .and .i64 (i : Int) ((n - 1 : Nat) : Int) = ((i % n : Nat) : Int) := by
    obtain ⟨k, h1, rfl⟩ := hk
    exact and_mask i k hi (by omega)
  obtain ⟨r, hr⟩ : ∃ r, i % n = r := ⟨_, rfl⟩
  have hr2 : r < 16 := by rw [← hr]; exact Nat.lt_of_lt_of_le (Nat.mod_lt _ (by omega)) hle.2
  rw [hr] at q1
  obtain ⟨sr, hsr⟩ : ∃ sr, s * r = sr := ⟨_, rfl⟩
  have hsb : sr ≤ 128 := by rw [← hsr]; exact Nat.le_trans (Nat.mul_le_mul hs (show r ≤ 16 by omega)) (by decide)
  have q2 : IntKind.i64.wrap ((s : Int) * (r : Int)) = (sr : Int) := by rw [← Int.natCast_mul, hsr]; exact IntWalk.i64_in _ (by omega)
  have q3 : IntKind.i64.wrap (4 + (sr : Int)) = 4 + (sr : Int) := IntWalk.i64_in _ (by omega)
  rw [hr, hsr]
  clear hn hi hs hk hle hr hr2 hsr hsb
  go_enter Try.func56, Try.ntmps56
  go_wp2
  go_ret
  exact ⟨by first | rfl | (congr 2), hv.below⟩
end Go.Proofs.Ytcelehhaggoijaa
