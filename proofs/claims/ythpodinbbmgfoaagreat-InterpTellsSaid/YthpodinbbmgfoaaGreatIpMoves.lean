/-
  The walk of the deeds that take no words.
-/
import Derived.Test.YthpodinbbmgfoaaGreatIpNo
set_option linter.unusedVariables false
set_option linter.unusedSimpArgs false
namespace Go
open Go.RowKit
theorem Rd.uncut {w : World} {k n cap cap' : Nat} {ao : Option Addr} {c : List Value} (h : Rd w k (.slice ao n cap) c) (h1 : n ≤ cap') (h2 : cap' ≤ maxLen ∧ (ao = none → cap' = 0)) : Rd w k (.slice ao n cap') c := by
  obtain ⟨ao', n', cap0, e, g1, g2, g3, g4, g5⟩ := h
  cases e
  exact ⟨ao, n, cap', rfl, g1, h1, h2.1, fun h => ⟨(g4 h).1, h2.2 h⟩, g5⟩
/-- The first cells of a slice that is read. -/
theorem Rd.front {w : World} {b o n cap : Nat} {c : List Value} (h : Rd w 1 (.slice (Option.some ⟨b, o, none⟩) n cap) c) {m : Nat} (hm : m ≤ n) : Rd w 1 (.slice (Option.some ⟨b, o, none⟩) m cap) (c.take m) := by
  have hc : n ≤ cap := by obtain ⟨_, _, _, e, _, g, _⟩ := h; cases e; exact g
  have := h.part (lo := 0) (hi := m) (by omega) hm (cp := cap) (by omega) (Nat.le_refl _)
  simpa using this
theorem Apart.front {b o n cap : Nat} {c : List Value} {L : List (Nat × Array Value)} (h : Apart (.slice (Option.some ⟨b, o, none⟩) n cap) c L) {m cap' : Nat} : Apart (.slice (Option.some ⟨b, o, none⟩) m cap') (c.take m) L := fun hc b' o' n' cp e p hp => by
  cases e
  exact h (fun e => hc (by rw [e]; simp)) b o n cap rfl p hp
theorem Mem.front {w0 w : World} {L : List (Nat × Array Value)} {R : List (Nat × Value × List Value)} {b o n cap : Nat} {c : List Value} (h : Mem w0 w L R) (hm : (1, .slice (Option.some ⟨b, o, none⟩) n cap, c) ∈ R) {m : Nat} (hmn : m ≤ n) : Mem w0 w L ((1, .slice (Option.some ⟨b, o, none⟩) m cap, c.take m) :: R) :=
  h.add ((h.rd hm).front hmn) (Apart.front (h.rds _ hm).2)
end Go
namespace Go.Proofs.Ip
open Go Go.RowKit
theorem deed_set1 {T p X : Array Value} (hT : T.size = 7) (v : Value) : (deed T p X).setIfInBounds 1 v = deed (T.setIfInBounds 1 v) p X := deed_set_lo hT (by decide) v
theorem deed_setl3 {T p X : Array Value} (hT : T.size = 7) (v : Value) : (deed T p X).setIfInBounds 3 v = deed (T.setIfInBounds 3 v) p X := deed_set_lo hT (by decide) v
end Go.Proofs.Ip
namespace Go.Proofs.YthpodinbbmgfoaaGreat
open Go.Proofs.Ip Go.Proofs.Pt Go.Proofs.Pg Go.Proofs.Cd Go.RowKit Go.Shelf
set_option maxRecDepth 100000 in
set_option maxHeartbeats 1000000 in
theorem moves_no (st pc sk er : Int) (wk : Nat) (sv cv wv two one : Value) (p : Array Value) (arg bD : Nat) (w0 w : World) (L : List (Nat × Array Value)) (R : List (Nat × Value × List Value)) (hp : p.size = 144) (op : Int) (h0 : op ≠ 0) (h37 : op ≠ 37) (h23 : op ≠ 23) (h22 : op ≠ 22) (h20 : op ≠ 20) (hv : Mem w0 w ((bD, deed #[.int .i64 st, .int .i64 pc, sv, cv, .int .u64 (wk : Nat), .int .i64 sk, .int .i64 er] p #[.int .i64 op, .int .u64 (arg : Nat), wv, two, one]) :: L) R) : Calls Tryz.prog 15 #[.pointer (some ⟨bD, 0, none⟩)] w fun e w' => e = .returned (.tuple #[.int .i64 0, .bool false]) ∧ w = w' := by
  replace hp := Lib.hid hp
  replace h0 : (op == 0) = false := by rw [beq_eq_false_iff_ne]; exact h0
  replace h37 : (op == 37) = false := by rw [beq_eq_false_iff_ne]; exact h37
  replace h23 : (op == 23) = false := by rw [beq_eq_false_iff_ne]; exact h23
  replace h22 : (op == 22) = false := by rw [beq_eq_false_iff_ne]; exact h22
  replace h20 : (op == 20) = false := by rw [beq_eq_false_iff_ne]; exact h20
  go_enter Tryz.func15, Tryz.ntmps15
  go_wp2_with (first
    | ((with_reducible refine at_load (T := 3) ?_); refine wl_ldc rfl _ _ rfl _ (hv.vars.row (by first | exact .head _ | exact .tail _ (.head _) | exact .tail _ (.tail _ (.head _)) | exact .tail _ (.tail _ (.tail _ (.head _))) | exact .tail _ (.tail _ (.tail _ (.tail _ (.head _)))) | exact .tail _ (.tail _ (.tail _ (.tail _ (.tail _ (.head _))))) | exact .tail _ (.tail _ (.tail _ (.tail _ (.tail _ (.tail _ (.head _)))))) | exact .tail _ (.tail _ (.tail _ (.tail _ (.tail _ (.tail _ (.tail _ (.head _))))))))) _ Tryz.underlying3 rfl (.int .i64 op) (deed_hi rfl hp.out 0) ?_)
    | ((with_reducible refine at_load (T := 3) ?_); refine wl_ldc rfl _ _ rfl _ (hv.vars.row (by first | exact .head _ | exact .tail _ (.head _) | exact .tail _ (.tail _ (.head _)) | exact .tail _ (.tail _ (.tail _ (.head _))) | exact .tail _ (.tail _ (.tail _ (.tail _ (.head _)))) | exact .tail _ (.tail _ (.tail _ (.tail _ (.tail _ (.head _))))) | exact .tail _ (.tail _ (.tail _ (.tail _ (.tail _ (.tail _ (.head _)))))) | exact .tail _ (.tail _ (.tail _ (.tail _ (.tail _ (.tail _ (.tail _ (.head _))))))))) _ Tryz.underlying3 rfl (.int .i64 pc) (deed_lo rfl (i := 1) (by decide)) ?_)
    | ((with_reducible refine at_load (T := 25) ?_); refine wl_ldc rfl _ _ rfl _ (hv.vars.row (by first | exact .head _ | exact .tail _ (.head _) | exact .tail _ (.tail _ (.head _)) | exact .tail _ (.tail _ (.tail _ (.head _))) | exact .tail _ (.tail _ (.tail _ (.tail _ (.head _)))) | exact .tail _ (.tail _ (.tail _ (.tail _ (.tail _ (.head _))))) | exact .tail _ (.tail _ (.tail _ (.tail _ (.tail _ (.tail _ (.head _)))))) | exact .tail _ (.tail _ (.tail _ (.tail _ (.tail _ (.tail _ (.tail _ (.head _))))))))) _ Tryz.underlying25 rfl (.int .u64 (arg : Nat)) (deed_hi rfl hp.out 1) ?_))
  go_ret2
  exact ⟨rfl, rfl⟩
set_option maxRecDepth 100000 in
set_option maxHeartbeats 1000000 in
theorem moves_halt (st pc sk er : Int) (wk : Nat) (sv cv wv two one : Value) (p : Array Value) (arg bD : Nat) (w0 w : World) (L : List (Nat × Array Value)) (R : List (Nat × Value × List Value)) (hp : p.size = 144)  (hv : Mem w0 w ((bD, deed #[.int .i64 st, .int .i64 pc, sv, cv, .int .u64 (wk : Nat), .int .i64 sk, .int .i64 er] p #[.int .i64 0, .int .u64 (arg : Nat), wv, two, one]) :: L) R) : Calls Tryz.prog 15 #[.pointer (some ⟨bD, 0, none⟩)] w fun e w' => e = .returned (.tuple #[.int .i64 310, .bool true]) ∧ w = w' := by
  replace hp := Lib.hid hp
  go_enter Tryz.func15, Tryz.ntmps15
  go_wp2_with (first
    | ((with_reducible refine at_load (T := 3) ?_); refine wl_ldc rfl _ _ rfl _ (hv.vars.row (by first | exact .head _ | exact .tail _ (.head _) | exact .tail _ (.tail _ (.head _)) | exact .tail _ (.tail _ (.tail _ (.head _))) | exact .tail _ (.tail _ (.tail _ (.tail _ (.head _)))) | exact .tail _ (.tail _ (.tail _ (.tail _ (.tail _ (.head _))))) | exact .tail _ (.tail _ (.tail _ (.tail _ (.tail _ (.tail _ (.head _)))))) | exact .tail _ (.tail _ (.tail _ (.tail _ (.tail _ (.tail _ (.tail _ (.head _))))))))) _ Tryz.underlying3 rfl (.int .i64 0) (deed_hi rfl hp.out 0) ?_)
    | ((with_reducible refine at_load (T := 3) ?_); refine wl_ldc rfl _ _ rfl _ (hv.vars.row (by first | exact .head _ | exact .tail _ (.head _) | exact .tail _ (.tail _ (.head _)) | exact .tail _ (.tail _ (.tail _ (.head _))) | exact .tail _ (.tail _ (.tail _ (.tail _ (.head _)))) | exact .tail _ (.tail _ (.tail _ (.tail _ (.tail _ (.head _))))) | exact .tail _ (.tail _ (.tail _ (.tail _ (.tail _ (.tail _ (.head _)))))) | exact .tail _ (.tail _ (.tail _ (.tail _ (.tail _ (.tail _ (.tail _ (.head _))))))))) _ Tryz.underlying3 rfl (.int .i64 pc) (deed_lo rfl (i := 1) (by decide)) ?_)
    | ((with_reducible refine at_load (T := 25) ?_); refine wl_ldc rfl _ _ rfl _ (hv.vars.row (by first | exact .head _ | exact .tail _ (.head _) | exact .tail _ (.tail _ (.head _)) | exact .tail _ (.tail _ (.tail _ (.head _))) | exact .tail _ (.tail _ (.tail _ (.tail _ (.head _)))) | exact .tail _ (.tail _ (.tail _ (.tail _ (.tail _ (.head _))))) | exact .tail _ (.tail _ (.tail _ (.tail _ (.tail _ (.tail _ (.head _)))))) | exact .tail _ (.tail _ (.tail _ (.tail _ (.tail _ (.tail _ (.tail _ (.head _))))))))) _ Tryz.underlying25 rfl (.int .u64 (arg : Nat)) (deed_hi rfl hp.out 1) ?_))
  go_ret2
  exact ⟨rfl, rfl⟩
set_option maxRecDepth 100000 in
set_option maxHeartbeats 1000000 in
theorem moves_sys (st pc sk er : Int) (wk : Nat) (sv cv wv two one : Value) (p : Array Value) (arg bD : Nat) (w0 w : World) (L : List (Nat × Array Value)) (R : List (Nat × Value × List Value)) (hp : p.size = 144)  (hv : Mem w0 w ((bD, deed #[.int .i64 st, .int .i64 pc, sv, cv, .int .u64 (wk : Nat), .int .i64 sk, .int .i64 er] p #[.int .i64 37, .int .u64 (arg : Nat), wv, two, one]) :: L) R) : Calls Tryz.prog 15 #[.pointer (some ⟨bD, 0, none⟩)] w fun e w' => e = .returned (.tuple #[.int .i64 302, .bool true]) ∧ w = w' := by
  replace hp := Lib.hid hp
  go_enter Tryz.func15, Tryz.ntmps15
  go_wp2_with (first
    | ((with_reducible refine at_load (T := 3) ?_); refine wl_ldc rfl _ _ rfl _ (hv.vars.row (by first | exact .head _ | exact .tail _ (.head _) | exact .tail _ (.tail _ (.head _)) | exact .tail _ (.tail _ (.tail _ (.head _))) | exact .tail _ (.tail _ (.tail _ (.tail _ (.head _)))) | exact .tail _ (.tail _ (.tail _ (.tail _ (.tail _ (.head _))))) | exact .tail _ (.tail _ (.tail _ (.tail _ (.tail _ (.tail _ (.head _)))))) | exact .tail _ (.tail _ (.tail _ (.tail _ (.tail _ (.tail _ (.tail _ (.head _))))))))) _ Tryz.underlying3 rfl (.int .i64 37) (deed_hi rfl hp.out 0) ?_)
    | ((with_reducible refine at_load (T := 3) ?_); refine wl_ldc rfl _ _ rfl _ (hv.vars.row (by first | exact .head _ | exact .tail _ (.head _) | exact .tail _ (.tail _ (.head _)) | exact .tail _ (.tail _ (.tail _ (.head _))) | exact .tail _ (.tail _ (.tail _ (.tail _ (.head _)))) | exact .tail _ (.tail _ (.tail _ (.tail _ (.tail _ (.head _))))) | exact .tail _ (.tail _ (.tail _ (.tail _ (.tail _ (.tail _ (.head _)))))) | exact .tail _ (.tail _ (.tail _ (.tail _ (.tail _ (.tail _ (.tail _ (.head _))))))))) _ Tryz.underlying3 rfl (.int .i64 pc) (deed_lo rfl (i := 1) (by decide)) ?_)
    | ((with_reducible refine at_load (T := 25) ?_); refine wl_ldc rfl _ _ rfl _ (hv.vars.row (by first | exact .head _ | exact .tail _ (.head _) | exact .tail _ (.tail _ (.head _)) | exact .tail _ (.tail _ (.tail _ (.head _))) | exact .tail _ (.tail _ (.tail _ (.tail _ (.head _)))) | exact .tail _ (.tail _ (.tail _ (.tail _ (.tail _ (.head _))))) | exact .tail _ (.tail _ (.tail _ (.tail _ (.tail _ (.tail _ (.head _)))))) | exact .tail _ (.tail _ (.tail _ (.tail _ (.tail _ (.tail _ (.tail _ (.head _))))))))) _ Tryz.underlying25 rfl (.int .u64 (arg : Nat)) (deed_hi rfl hp.out 1) ?_))
  go_ret2
  exact ⟨rfl, rfl⟩
set_option maxRecDepth 100000 in
set_option maxHeartbeats 1000000 in
theorem moves_ret0 (st pc sk er : Int) (wk : Nat) (sv wv two one : Value) (p : Array Value) (arg bD : Nat) (w0 w : World) (L : List (Nat × Array Value)) (R : List (Nat × Value × List Value)) (hp : p.size = 144) (ca : Option Addr) (cn cc : Nat) (hcn : cn = 0) (hv : Mem w0 w ((bD, deed #[.int .i64 st, .int .i64 pc, sv, (.slice ca cn cc), .int .u64 (wk : Nat), .int .i64 sk, .int .i64 er] p #[.int .i64 23, .int .u64 (arg : Nat), wv, two, one]) :: L) R) : Calls Tryz.prog 15 #[.pointer (some ⟨bD, 0, none⟩)] w fun e w' => e = .returned (.tuple #[.int .i64 310, .bool true]) ∧ w = w' := by
  replace hp := Lib.hid hp
  subst hcn
  go_enter Tryz.func15, Tryz.ntmps15
  go_wp2_with (first
    | ((with_reducible refine at_load (T := 3) ?_); refine wl_ldc rfl _ _ rfl _ (hv.vars.row (by first | exact .head _ | exact .tail _ (.head _) | exact .tail _ (.tail _ (.head _)) | exact .tail _ (.tail _ (.tail _ (.head _))) | exact .tail _ (.tail _ (.tail _ (.tail _ (.head _)))) | exact .tail _ (.tail _ (.tail _ (.tail _ (.tail _ (.head _))))) | exact .tail _ (.tail _ (.tail _ (.tail _ (.tail _ (.tail _ (.head _)))))) | exact .tail _ (.tail _ (.tail _ (.tail _ (.tail _ (.tail _ (.tail _ (.head _))))))))) _ Tryz.underlying3 rfl (.int .i64 23) (deed_hi rfl hp.out 0) ?_)
    | ((with_reducible refine at_load (T := 3) ?_); refine wl_ldc rfl _ _ rfl _ (hv.vars.row (by first | exact .head _ | exact .tail _ (.head _) | exact .tail _ (.tail _ (.head _)) | exact .tail _ (.tail _ (.tail _ (.head _))) | exact .tail _ (.tail _ (.tail _ (.tail _ (.head _)))) | exact .tail _ (.tail _ (.tail _ (.tail _ (.tail _ (.head _))))) | exact .tail _ (.tail _ (.tail _ (.tail _ (.tail _ (.tail _ (.head _)))))) | exact .tail _ (.tail _ (.tail _ (.tail _ (.tail _ (.tail _ (.tail _ (.head _))))))))) _ Tryz.underlying3 rfl (.int .i64 pc) (deed_lo rfl (i := 1) (by decide)) ?_)
    | ((with_reducible refine at_load (T := 25) ?_); refine wl_ldc rfl _ _ rfl _ (hv.vars.row (by first | exact .head _ | exact .tail _ (.head _) | exact .tail _ (.tail _ (.head _)) | exact .tail _ (.tail _ (.tail _ (.head _))) | exact .tail _ (.tail _ (.tail _ (.tail _ (.head _)))) | exact .tail _ (.tail _ (.tail _ (.tail _ (.tail _ (.head _))))) | exact .tail _ (.tail _ (.tail _ (.tail _ (.tail _ (.tail _ (.head _)))))) | exact .tail _ (.tail _ (.tail _ (.tail _ (.tail _ (.tail _ (.tail _ (.head _))))))))) _ Tryz.underlying25 rfl (.int .u64 (arg : Nat)) (deed_hi rfl hp.out 1) ?_)
    | ((with_reducible refine at_load (T := 24) ?_); refine wl_ldc rfl _ _ rfl _ (hv.vars.row (by first | exact .head _ | exact .tail _ (.head _) | exact .tail _ (.tail _ (.head _)) | exact .tail _ (.tail _ (.tail _ (.head _))) | exact .tail _ (.tail _ (.tail _ (.tail _ (.head _)))) | exact .tail _ (.tail _ (.tail _ (.tail _ (.tail _ (.head _))))) | exact .tail _ (.tail _ (.tail _ (.tail _ (.tail _ (.tail _ (.head _)))))) | exact .tail _ (.tail _ (.tail _ (.tail _ (.tail _ (.tail _ (.tail _ (.head _))))))))) _ Tryz.underlying24 rfl (.slice ca 0 cc) (deed_lo rfl (i := 3) (by decide)) ?_))
  go_ret2
  exact ⟨rfl, rfl⟩
set_option maxRecDepth 100000 in
set_option maxHeartbeats 1000000 in
theorem moves_full (st pc sk er : Int) (wk : Nat) (sv wv two one : Value) (p : Array Value) (arg bD : Nat) (w0 w : World) (L : List (Nat × Array Value)) (R : List (Nat × Value × List Value)) (hp : p.size = 144) (ca : Option Addr) (cn cc : Nat) (hcn : cn = 16) (hv : Mem w0 w ((bD, deed #[.int .i64 st, .int .i64 pc, sv, (.slice ca cn cc), .int .u64 (wk : Nat), .int .i64 sk, .int .i64 er] p #[.int .i64 22, .int .u64 (arg : Nat), wv, two, one]) :: L) R) : Calls Tryz.prog 15 #[.pointer (some ⟨bD, 0, none⟩)] w fun e w' => e = .returned (.tuple #[.int .i64 300, .bool true]) ∧ w = w' := by
  replace hp := Lib.hid hp
  subst hcn
  go_enter Tryz.func15, Tryz.ntmps15
  go_wp2_with (first
    | ((with_reducible refine at_load (T := 3) ?_); refine wl_ldc rfl _ _ rfl _ (hv.vars.row (by first | exact .head _ | exact .tail _ (.head _) | exact .tail _ (.tail _ (.head _)) | exact .tail _ (.tail _ (.tail _ (.head _))) | exact .tail _ (.tail _ (.tail _ (.tail _ (.head _)))) | exact .tail _ (.tail _ (.tail _ (.tail _ (.tail _ (.head _))))) | exact .tail _ (.tail _ (.tail _ (.tail _ (.tail _ (.tail _ (.head _)))))) | exact .tail _ (.tail _ (.tail _ (.tail _ (.tail _ (.tail _ (.tail _ (.head _))))))))) _ Tryz.underlying3 rfl (.int .i64 22) (deed_hi rfl hp.out 0) ?_)
    | ((with_reducible refine at_load (T := 3) ?_); refine wl_ldc rfl _ _ rfl _ (hv.vars.row (by first | exact .head _ | exact .tail _ (.head _) | exact .tail _ (.tail _ (.head _)) | exact .tail _ (.tail _ (.tail _ (.head _))) | exact .tail _ (.tail _ (.tail _ (.tail _ (.head _)))) | exact .tail _ (.tail _ (.tail _ (.tail _ (.tail _ (.head _))))) | exact .tail _ (.tail _ (.tail _ (.tail _ (.tail _ (.tail _ (.head _)))))) | exact .tail _ (.tail _ (.tail _ (.tail _ (.tail _ (.tail _ (.tail _ (.head _))))))))) _ Tryz.underlying3 rfl (.int .i64 pc) (deed_lo rfl (i := 1) (by decide)) ?_)
    | ((with_reducible refine at_load (T := 25) ?_); refine wl_ldc rfl _ _ rfl _ (hv.vars.row (by first | exact .head _ | exact .tail _ (.head _) | exact .tail _ (.tail _ (.head _)) | exact .tail _ (.tail _ (.tail _ (.head _))) | exact .tail _ (.tail _ (.tail _ (.tail _ (.head _)))) | exact .tail _ (.tail _ (.tail _ (.tail _ (.tail _ (.head _))))) | exact .tail _ (.tail _ (.tail _ (.tail _ (.tail _ (.tail _ (.head _)))))) | exact .tail _ (.tail _ (.tail _ (.tail _ (.tail _ (.tail _ (.tail _ (.head _))))))))) _ Tryz.underlying25 rfl (.int .u64 (arg : Nat)) (deed_hi rfl hp.out 1) ?_)
    | ((with_reducible refine at_load (T := 24) ?_); refine wl_ldc rfl _ _ rfl _ (hv.vars.row (by first | exact .head _ | exact .tail _ (.head _) | exact .tail _ (.tail _ (.head _)) | exact .tail _ (.tail _ (.tail _ (.head _))) | exact .tail _ (.tail _ (.tail _ (.tail _ (.head _)))) | exact .tail _ (.tail _ (.tail _ (.tail _ (.tail _ (.head _))))) | exact .tail _ (.tail _ (.tail _ (.tail _ (.tail _ (.tail _ (.head _)))))) | exact .tail _ (.tail _ (.tail _ (.tail _ (.tail _ (.tail _ (.tail _ (.head _))))))))) _ Tryz.underlying24 rfl (.slice ca 16 cc) (deed_lo rfl (i := 3) (by decide)) ?_))
  go_ret2
  exact ⟨rfl, rfl⟩
set_option maxRecDepth 100000 in
set_option maxHeartbeats 1000000 in
theorem moves_jump (st pc sk er : Int) (wk : Nat) (sv cv wv two one : Value) (p : Array Value) (arg bD : Nat) (w0 w : World) (L : List (Nat × Array Value)) (R : List (Nat × Value × List Value)) (hp : p.size = 144) (ha : arg ≤ 128) (hv : Mem w0 w ((bD, deed #[.int .i64 st, .int .i64 pc, sv, cv, .int .u64 (wk : Nat), .int .i64 sk, .int .i64 er] p #[.int .i64 20, .int .u64 (arg : Nat), wv, two, one]) :: L) R) : Calls Tryz.prog 15 #[.pointer (some ⟨bD, 0, none⟩)] w fun e w' => e = .returned (.tuple #[.int .i64 0, .bool true]) ∧ Mem w0 w' ((bD, deed #[.int .i64 st, .int .i64 (arg : Nat), sv, cv, .int .u64 (wk : Nat), .int .i64 sk, .int .i64 er] p #[.int .i64 20, .int .u64 (arg : Nat), wv, two, one]) :: L) R := by
  replace hp := Lib.hid hp
  have ha1 : (arg : Int) ≤ 128 := by omega
  clear ha
  go_enter Tryz.func15, Tryz.ntmps15
  go_wp2_with (first
    | ((with_reducible refine at_load (T := 3) ?_); refine wl_ldc rfl _ _ rfl _ (hv.vars.row (by first | exact .head _ | exact .tail _ (.head _) | exact .tail _ (.tail _ (.head _)) | exact .tail _ (.tail _ (.tail _ (.head _))) | exact .tail _ (.tail _ (.tail _ (.tail _ (.head _)))) | exact .tail _ (.tail _ (.tail _ (.tail _ (.tail _ (.head _))))) | exact .tail _ (.tail _ (.tail _ (.tail _ (.tail _ (.tail _ (.head _)))))) | exact .tail _ (.tail _ (.tail _ (.tail _ (.tail _ (.tail _ (.tail _ (.head _))))))))) _ Tryz.underlying3 rfl (.int .i64 20) (deed_hi rfl hp.out 0) ?_)
    | ((with_reducible refine at_load (T := 3) ?_); refine wl_ldc rfl _ _ rfl _ (hv.vars.row (by first | exact .head _ | exact .tail _ (.head _) | exact .tail _ (.tail _ (.head _)) | exact .tail _ (.tail _ (.tail _ (.head _))) | exact .tail _ (.tail _ (.tail _ (.tail _ (.head _)))) | exact .tail _ (.tail _ (.tail _ (.tail _ (.tail _ (.head _))))) | exact .tail _ (.tail _ (.tail _ (.tail _ (.tail _ (.tail _ (.head _)))))) | exact .tail _ (.tail _ (.tail _ (.tail _ (.tail _ (.tail _ (.tail _ (.head _))))))))) _ Tryz.underlying3 rfl (.int .i64 pc) (deed_lo rfl (i := 1) (by decide)) ?_)
    | ((with_reducible refine at_load (T := 25) ?_); refine wl_ldc rfl _ _ rfl _ (hv.vars.row (by first | exact .head _ | exact .tail _ (.head _) | exact .tail _ (.tail _ (.head _)) | exact .tail _ (.tail _ (.tail _ (.head _))) | exact .tail _ (.tail _ (.tail _ (.tail _ (.head _)))) | exact .tail _ (.tail _ (.tail _ (.tail _ (.tail _ (.head _))))) | exact .tail _ (.tail _ (.tail _ (.tail _ (.tail _ (.tail _ (.head _)))))) | exact .tail _ (.tail _ (.tail _ (.tail _ (.tail _ (.tail _ (.tail _ (.head _))))))))) _ Tryz.underlying25 rfl (.int .u64 (arg : Nat)) (deed_hi rfl hp.out 1) ?_)
    | ((with_reducible refine at_store (T := 3) ?_); refine wl_stc rfl _ _ rfl (.int .i64 (arg : Nat)) rfl _ (hv.vars.row (by first | exact .head _ | exact .tail _ (.head _) | exact .tail _ (.tail _ (.head _)) | exact .tail _ (.tail _ (.tail _ (.head _))) | exact .tail _ (.tail _ (.tail _ (.tail _ (.head _)))) | exact .tail _ (.tail _ (.tail _ (.tail _ (.tail _ (.head _))))) | exact .tail _ (.tail _ (.tail _ (.tail _ (.tail _ (.tail _ (.head _)))))) | exact .tail _ (.tail _ (.tail _ (.tail _ (.tail _ (.tail _ (.tail _ (.head _))))))))) (hv.vars.sft (by first | exact .head _ | exact .tail _ (.head _) | exact .tail _ (.tail _ (.head _)) | exact .tail _ (.tail _ (.tail _ (.head _))) | exact .tail _ (.tail _ (.tail _ (.tail _ (.head _)))) | exact .tail _ (.tail _ (.tail _ (.tail _ (.tail _ (.head _))))) | exact .tail _ (.tail _ (.tail _ (.tail _ (.tail _ (.tail _ (.head _)))))) | exact .tail _ (.tail _ (.tail _ (.tail _ (.tail _ (.tail _ (.tail _ (.head _))))))))) (by kernel_rfl) rfl (by rw [deed_size rfl hp.out]; simp) ?_; intro w2 hw2; (first | (replace hv := hv.set 0 rfl hw2) | (replace hv := hv.set 1 rfl hw2) | (replace hv := hv.set 2 rfl hw2)); clear hw2; simp only [List.set] at hv; rw [deed_set1 rfl] at hv; simp only [List.setIfInBounds_toArray, List.set_cons_succ, List.set_cons_zero] at hv))
  go_ret2
  exact ⟨rfl, hv⟩
set_option maxRecDepth 100000 in
set_option maxHeartbeats 1000000 in
theorem moves_ret (st pc sk er : Int) (wk : Nat) (sv wv two one : Value) (p : Array Value) (arg bD : Nat) (w0 w : World) (L : List (Nat × Array Value)) (R : List (Nat × Value × List Value)) (hp : p.size = 144) (cb co m cc : Nat) (C0 : List Int) (x : Int) (hm : C0.length = m) (hC : m ≤ 15) (hcv : (1, (.slice (some ⟨cb, co, none⟩) (m + 1) cc), cellsN (C0 ++ [x])) ∈ R) (hv : Mem w0 w ((bD, deed #[.int .i64 st, .int .i64 pc, sv, (.slice (some ⟨cb, co, none⟩) (m + 1) cc), .int .u64 (wk : Nat), .int .i64 sk, .int .i64 er] p #[.int .i64 23, .int .u64 (arg : Nat), wv, two, one]) :: L) R) : Calls Tryz.prog 15 #[.pointer (some ⟨bD, 0, none⟩)] w fun e w' => e = .returned (.tuple #[.int .i64 0, .bool true]) ∧ ∃ cv', Mem w0 w' ((bD, deed #[.int .i64 st, .int .i64 x, sv, cv', .int .u64 (wk : Nat), .int .i64 sk, .int .i64 er] p #[.int .i64 23, .int .u64 (arg : Nat), wv, two, one]) :: L) ((1, cv', cellsN C0) :: R) := by
  replace hp := Lib.hid hp
  have hr := hv.rd hcv
  have c0 : w.cell? ⟨cb, co + m, none⟩ = some (.int .i64 x) := by
    obtain ⟨_, _, _, _, e, _, _, _, _, g⟩ := hr.some (by rw [cellsN_len]; simp)
    cases e
    rw [g m (by rw [cellsN_len]; simp; omega)]
    simp [cellsN, ← hm]
  have hfr := hv.front hcv (m := m) (by omega)
  have e1 : (cellsN (C0 ++ [x])).take m = cellsN C0 := by rw [← cellsN_take, List.take_left' hm]
  rw [e1] at hfr
  replace hv := hfr
  have kN : ∀ w', Rd w' 1 (.slice (some ⟨cb, co, none⟩) m cc) (cellsN C0) → Calls Tryz.prog 27 #[.slice (some ⟨cb, co, none⟩) m cc] w' fun e w2 => ∃ v', e = .returned v' ∧ FR w' w2 1 v' (cellsN C0) ∧ New w' w2 := fun w' h => CloneN_any _ _ w' h (cellsN_one _) (by rw [cellsN_len]; omega)
  have hmc : m + 1 ≤ cc ∧ cc ≤ 9223372036854775807 := by
    obtain ⟨_, _, _, e, _, g1, g2, _⟩ := hr
    cases e
    unfold maxLen at g2; exact ⟨g1, by omega⟩
  obtain ⟨q1, q2⟩ := hmc
  have q3 : m ≤ cc := by omega
  have q4 : (m : Int) ≤ (cc : Int) := by omega
  have q5 : ((m + 1 : Nat) : Int) - 1 = (m : Int) := by omega
  have q6 : (m : Int) ≤ 15 := by omega
  have q7 : (0 : Int) ≤ (m : Int) := by omega
  clear hr hfr e1 hcv hm hC q1
  go_enter Tryz.func15, Tryz.ntmps15
  go_wp2_with (first
    | ((with_reducible refine at_load (T := 3) ?_); refine wl_ldc rfl _ _ rfl _ (hv.vars.row (by first | exact .head _ | exact .tail _ (.head _) | exact .tail _ (.tail _ (.head _)) | exact .tail _ (.tail _ (.tail _ (.head _))) | exact .tail _ (.tail _ (.tail _ (.tail _ (.head _)))) | exact .tail _ (.tail _ (.tail _ (.tail _ (.tail _ (.head _))))) | exact .tail _ (.tail _ (.tail _ (.tail _ (.tail _ (.tail _ (.head _)))))) | exact .tail _ (.tail _ (.tail _ (.tail _ (.tail _ (.tail _ (.tail _ (.head _))))))))) _ Tryz.underlying3 rfl (.int .i64 23) (deed_hi rfl hp.out 0) ?_)
    | ((with_reducible refine at_load (T := 3) ?_); refine wl_ldc rfl _ _ rfl _ (hv.vars.row (by first | exact .head _ | exact .tail _ (.head _) | exact .tail _ (.tail _ (.head _)) | exact .tail _ (.tail _ (.tail _ (.head _))) | exact .tail _ (.tail _ (.tail _ (.tail _ (.head _)))) | exact .tail _ (.tail _ (.tail _ (.tail _ (.tail _ (.head _))))) | exact .tail _ (.tail _ (.tail _ (.tail _ (.tail _ (.tail _ (.head _)))))) | exact .tail _ (.tail _ (.tail _ (.tail _ (.tail _ (.tail _ (.tail _ (.head _))))))))) _ Tryz.underlying3 rfl (.int .i64 pc) (deed_lo rfl (i := 1) (by decide)) ?_)
    | ((with_reducible refine at_load (T := 25) ?_); refine wl_ldc rfl _ _ rfl _ (hv.vars.row (by first | exact .head _ | exact .tail _ (.head _) | exact .tail _ (.tail _ (.head _)) | exact .tail _ (.tail _ (.tail _ (.head _))) | exact .tail _ (.tail _ (.tail _ (.tail _ (.head _)))) | exact .tail _ (.tail _ (.tail _ (.tail _ (.tail _ (.head _))))) | exact .tail _ (.tail _ (.tail _ (.tail _ (.tail _ (.tail _ (.head _)))))) | exact .tail _ (.tail _ (.tail _ (.tail _ (.tail _ (.tail _ (.tail _ (.head _))))))))) _ Tryz.underlying25 rfl (.int .u64 (arg : Nat)) (deed_hi rfl hp.out 1) ?_)
    | ((with_reducible refine at_load (T := 24) ?_); refine wl_ldc rfl _ _ rfl _ (hv.vars.row (by first | exact .head _ | exact .tail _ (.head _) | exact .tail _ (.tail _ (.head _)) | exact .tail _ (.tail _ (.tail _ (.head _))) | exact .tail _ (.tail _ (.tail _ (.tail _ (.head _)))) | exact .tail _ (.tail _ (.tail _ (.tail _ (.tail _ (.head _))))) | exact .tail _ (.tail _ (.tail _ (.tail _ (.tail _ (.tail _ (.head _)))))) | exact .tail _ (.tail _ (.tail _ (.tail _ (.tail _ (.tail _ (.tail _ (.head _))))))))) _ Tryz.underlying24 rfl (.slice (some ⟨cb, co, none⟩) (m + 1) cc) (deed_lo rfl (i := 3) (by decide)) ?_)
    | ((with_reducible refine at_store (T := 3) ?_); refine wl_stc rfl _ _ rfl (.int .i64 x) rfl _ (hv.vars.row (by first | exact .head _ | exact .tail _ (.head _) | exact .tail _ (.tail _ (.head _)) | exact .tail _ (.tail _ (.tail _ (.head _))) | exact .tail _ (.tail _ (.tail _ (.tail _ (.head _)))) | exact .tail _ (.tail _ (.tail _ (.tail _ (.tail _ (.head _))))) | exact .tail _ (.tail _ (.tail _ (.tail _ (.tail _ (.tail _ (.head _)))))) | exact .tail _ (.tail _ (.tail _ (.tail _ (.tail _ (.tail _ (.tail _ (.head _))))))))) (hv.vars.sft (by first | exact .head _ | exact .tail _ (.head _) | exact .tail _ (.tail _ (.head _)) | exact .tail _ (.tail _ (.tail _ (.head _))) | exact .tail _ (.tail _ (.tail _ (.tail _ (.head _)))) | exact .tail _ (.tail _ (.tail _ (.tail _ (.tail _ (.head _))))) | exact .tail _ (.tail _ (.tail _ (.tail _ (.tail _ (.tail _ (.head _)))))) | exact .tail _ (.tail _ (.tail _ (.tail _ (.tail _ (.tail _ (.tail _ (.head _))))))))) (by kernel_rfl) rfl (by rw [deed_size rfl hp.out]; simp) ?_; intro w2 hw2; (first | (replace hv := hv.set 0 rfl hw2) | (replace hv := hv.set 1 rfl hw2) | (replace hv := hv.set 2 rfl hw2)); clear hw2; simp only [List.set] at hv; rw [deed_set1 rfl] at hv; simp only [List.setIfInBounds_toArray, List.set_cons_succ, List.set_cons_zero] at hv)
    | ((with_reducible refine at_store (T := 24) ?_); refine wl_stc rfl _ _ rfl (.slice a9 n9 c9) rfl _ (hv.vars.row (by first | exact .head _ | exact .tail _ (.head _) | exact .tail _ (.tail _ (.head _)) | exact .tail _ (.tail _ (.tail _ (.head _))) | exact .tail _ (.tail _ (.tail _ (.tail _ (.head _)))) | exact .tail _ (.tail _ (.tail _ (.tail _ (.tail _ (.head _))))) | exact .tail _ (.tail _ (.tail _ (.tail _ (.tail _ (.tail _ (.head _)))))) | exact .tail _ (.tail _ (.tail _ (.tail _ (.tail _ (.tail _ (.tail _ (.head _))))))))) (hv.vars.sft (by first | exact .head _ | exact .tail _ (.head _) | exact .tail _ (.tail _ (.head _)) | exact .tail _ (.tail _ (.tail _ (.head _))) | exact .tail _ (.tail _ (.tail _ (.tail _ (.head _)))) | exact .tail _ (.tail _ (.tail _ (.tail _ (.tail _ (.head _))))) | exact .tail _ (.tail _ (.tail _ (.tail _ (.tail _ (.tail _ (.head _)))))) | exact .tail _ (.tail _ (.tail _ (.tail _ (.tail _ (.tail _ (.tail _ (.head _))))))))) (by kernel_rfl) rfl (by rw [deed_size rfl hp.out]; simp) ?_; intro w2 hw2; (first | (replace hv := hv.set 0 rfl hw2) | (replace hv := hv.set 1 rfl hw2) | (replace hv := hv.set 2 rfl hw2)); clear hw2; simp only [List.set] at hv; rw [deed_setl3 rfl] at hv; simp only [List.setIfInBounds_toArray, List.set_cons_succ, List.set_cons_zero] at hv)
    | (go_at_call 27; (with_reducible refine (kN _ (hv.rd Mem.z)).mono ?_); rintro e w1 ⟨v1, rfl, hf1, hn1⟩; obtain ⟨a9, n9, c9, rfl, _⟩ := id hf1.1; replace hv := hv.fresh hn1 hf1; clear hn1 hf1))
  go_ret2
  exact ⟨rfl, _, hv.keepR (fun y hy => (List.mem_cons.1 hy).elim (fun e => e ▸ Mem.z) (fun h => Mem.s (Mem.s h)))⟩
set_option maxRecDepth 100000 in
set_option maxHeartbeats 1000000 in
theorem moves_call (st pc sk er : Int) (wk : Nat) (sv wv two one : Value) (p : Array Value) (arg bD : Nat) (w0 w : World) (L : List (Nat × Array Value)) (R : List (Nat × Value × List Value)) (hp : p.size = 144) (ca : Option Addr) (n cc : Nat) (C : List Int) (ha : arg ≤ 128) (hn : C.length = n) (hC : n < 16) (hpc : 0 ≤ pc) (hpc2 : pc < 128) (hcv : (1, (.slice ca n cc), cellsN C) ∈ R) (hv : Mem w0 w ((bD, deed #[.int .i64 st, .int .i64 pc, sv, (.slice ca n cc), .int .u64 (wk : Nat), .int .i64 sk, .int .i64 er] p #[.int .i64 22, .int .u64 (arg : Nat), wv, two, one]) :: L) R) : Calls Tryz.prog 15 #[.pointer (some ⟨bD, 0, none⟩)] w fun e w' => e = .returned (.tuple #[.int .i64 0, .bool true]) ∧ ∃ cv', Mem w0 w' ((bD, deed #[.int .i64 st, .int .i64 (arg : Nat), sv, cv', .int .u64 (wk : Nat), .int .i64 sk, .int .i64 er] p #[.int .i64 22, .int .u64 (arg : Nat), wv, two, one]) :: L) ((1, cv', cellsN (C ++ [pc + 1])) :: R) := by
  replace hp := Lib.hid hp
  have ha1 : (arg : Int) ≤ 128 := by omega
  have hr := hv.rd hcv
  have hnc : n ≤ cc := by
    obtain ⟨_, _, _, e, _, g1, g2, _⟩ := hr
    cases e; exact g1
  have hcm : cc ≤ maxLen ∧ (ca = none → cc = 0) := by
    obtain ⟨_, _, _, e, _, g1, g2, g3, _⟩ := hr
    cases e; exact ⟨g2, fun h => (g3 h).2⟩
  have hr1 : Rd w 1 (.slice ca n n) (cellsN C) := hr.cut (Nat.le_refl _) hnc
  have hap : Apart (.slice ca n n) (cellsN C) ((bD, (deed #[.int .i64 st, .int .i64 pc, sv, (.slice ca n cc), .int .u64 (wk : Nat), .int .i64 sk, .int .i64 er] p #[.int .i64 22, .int .u64 (arg : Nat), wv, two, one])) :: L) := fun hc b o n' cap e p hp => by
    cases e
    exact (hv.rds _ hcv).2 hc b o n cc rfl p hp
  replace hv := hv.add hr1 hap
  have kK : ∀ w', Rd w' 1 (.slice ca n n) (cellsN C) → Calls Tryz.prog 28 #[.slice ca n cc] w' fun e w2 => e = .returned (.slice ca n n) ∧ w' = w2 := fun w' h => (ClipN_any ca n cc (cellsN C) w' (h.uncut hnc hcm)).mono fun e w2 ⟨g1, _, g3⟩ => ⟨g1, g3⟩
  have hB3 : 1 ≤ maxLen := by unfold maxLen; omega
  have hB0 : Hid (∀ y ∈ [Value.int .i64 (pc + 1)], y.oneCell' = true) := Lib.hid (fun y hy => by rw [List.mem_singleton.1 hy]; rfl)
  have hB1 : Hid (((cellsN C).length + [Value.int .i64 (pc + 1)].length) / 1 ≤ maxLen) := Lib.hid (by rw [cellsN_len]; simp only [List.length_cons, List.length_nil]; unfold maxLen; omega)
  have hB2 : Hid (((cellsN C).length + [Value.int .i64 (pc + 1)].length) / 1 * 8 ≤ 140737488355328) := Lib.hid (by rw [cellsN_len]; simp only [List.length_cons, List.length_nil]; omega)
  have HN := Lib.hid hn
  have q1 : ((n : Int) == 16) = false := by rw [beq_eq_false_iff_ne]; omega
  have q2 : IntKind.i64.wrap (pc + 1) = pc + 1 := IntWalk.i64_in _ (by omega)
  clear hr hr1 hap hn hC hcv hnc hcm ha
  go_enter Tryz.func15, Tryz.ntmps15
  go_wp2_with (first
    | ((with_reducible refine at_load (T := 3) ?_); refine wl_ldc rfl _ _ rfl _ (hv.vars.row (by first | exact .head _ | exact .tail _ (.head _) | exact .tail _ (.tail _ (.head _)) | exact .tail _ (.tail _ (.tail _ (.head _))) | exact .tail _ (.tail _ (.tail _ (.tail _ (.head _)))) | exact .tail _ (.tail _ (.tail _ (.tail _ (.tail _ (.head _))))) | exact .tail _ (.tail _ (.tail _ (.tail _ (.tail _ (.tail _ (.head _)))))) | exact .tail _ (.tail _ (.tail _ (.tail _ (.tail _ (.tail _ (.tail _ (.head _))))))))) _ Tryz.underlying3 rfl (.int .i64 22) (deed_hi rfl hp.out 0) ?_)
    | ((with_reducible refine at_load (T := 3) ?_); refine wl_ldc rfl _ _ rfl _ (hv.vars.row (by first | exact .head _ | exact .tail _ (.head _) | exact .tail _ (.tail _ (.head _)) | exact .tail _ (.tail _ (.tail _ (.head _))) | exact .tail _ (.tail _ (.tail _ (.tail _ (.head _)))) | exact .tail _ (.tail _ (.tail _ (.tail _ (.tail _ (.head _))))) | exact .tail _ (.tail _ (.tail _ (.tail _ (.tail _ (.tail _ (.head _)))))) | exact .tail _ (.tail _ (.tail _ (.tail _ (.tail _ (.tail _ (.tail _ (.head _))))))))) _ Tryz.underlying3 rfl (.int .i64 pc) (deed_lo rfl (i := 1) (by decide)) ?_)
    | ((with_reducible refine at_load (T := 25) ?_); refine wl_ldc rfl _ _ rfl _ (hv.vars.row (by first | exact .head _ | exact .tail _ (.head _) | exact .tail _ (.tail _ (.head _)) | exact .tail _ (.tail _ (.tail _ (.head _))) | exact .tail _ (.tail _ (.tail _ (.tail _ (.head _)))) | exact .tail _ (.tail _ (.tail _ (.tail _ (.tail _ (.head _))))) | exact .tail _ (.tail _ (.tail _ (.tail _ (.tail _ (.tail _ (.head _)))))) | exact .tail _ (.tail _ (.tail _ (.tail _ (.tail _ (.tail _ (.tail _ (.head _))))))))) _ Tryz.underlying25 rfl (.int .u64 (arg : Nat)) (deed_hi rfl hp.out 1) ?_)
    | ((with_reducible refine at_load (T := 24) ?_); refine wl_ldc rfl _ _ rfl _ (hv.vars.row (by first | exact .head _ | exact .tail _ (.head _) | exact .tail _ (.tail _ (.head _)) | exact .tail _ (.tail _ (.tail _ (.head _))) | exact .tail _ (.tail _ (.tail _ (.tail _ (.head _)))) | exact .tail _ (.tail _ (.tail _ (.tail _ (.tail _ (.head _))))) | exact .tail _ (.tail _ (.tail _ (.tail _ (.tail _ (.tail _ (.head _)))))) | exact .tail _ (.tail _ (.tail _ (.tail _ (.tail _ (.tail _ (.tail _ (.head _))))))))) _ Tryz.underlying24 rfl (.slice ca n cc) (deed_lo rfl (i := 3) (by decide)) ?_))
  have HC := Lib.hid (Any.rd_start (hv.keep (List.sublist_append_left [(bD, (deed #[.int .i64 st, .int .i64 pc, sv, (.slice ca n cc), .int .u64 (wk : Nat), .int .i64 sk, .int .i64 er] p #[.int .i64 22, .int .u64 (arg : Nat), wv, two, one]))] L)) (Mem.z))
  refine Any.wp_region_walk [⟨[], none⟩, ⟨[], none⟩, ⟨[], none⟩, ⟨[], none⟩, ⟨[], none⟩, ⟨[1000], none⟩, ⟨[], none⟩, ⟨[], none⟩, ⟨[], none⟩, ⟨[], none⟩, ⟨[], none⟩, ⟨[1000], none⟩, ⟨[], none⟩, ⟨[], some 2⟩, ⟨[2], some 3⟩, ⟨[], none⟩, ⟨[], none⟩, ⟨[], none⟩, ⟨[1000], some 1000⟩] [.val, .val, .val, .val, .val, .val, .val, .val, .val, .val, .val, .val, .val, .bsl 1 #[.int .i64 (pc + 1)], .own (AppRow · 1 (cellsN C ++ [Value.int .i64 (pc + 1)])), .pure, .pure, .pure, .put] (by kernel_rfl) (by kernel_rfl) (hv.vars.keep (List.sublist_append_left [(bD, (deed #[.int .i64 st, .int .i64 pc, sv, (.slice ca n cc), .int .u64 (wk : Nat), .int .i64 sk, .int .i64 er] p #[.int .i64 22, .int .u64 (arg : Nat), wv, two, one]))] L)) ?_
  simp only [List.length_cons, List.length_nil, Nat.zero_add, Any.someVals]
  iterate 19 apply Exists.intro
  repeat (first
    | (refine Any.E_off rfl ?_; simp only [Act.put, List.setIfInBounds_toArray, List.set_cons_succ, List.set_cons_zero])
    | (apply Any.E_pureq rfl rfl rfl
       case h => intro K hK; go_big_quiet_op; (refine hK _ ?_; rfl)
       case hr => exact fun _ => rfl
       simp only [Act.put, List.setIfInBounds_toArray, List.set_cons_succ, List.set_cons_zero])
    | (apply Any.E_val rfl rfl rfl rfl
       case h =>
         intro E' hA K hK
         first
           | ((with_reducible refine Any.at_qload (T := 3) ?_); refine Any.q_ldc 1000 hA (by decide) rfl rfl _ Tryz.underlying3 rfl (.int .i64 pc) (deed_lo rfl (i := 1) (by decide)) ?_; refine hK _ ?_; rfl)
           | ((with_reducible refine Any.at_qload (T := 24) ?_); refine Any.q_ldc 1000 hA (by decide) rfl rfl _ Tryz.underlying24 rfl (.slice ca n cc) (deed_lo rfl (i := 3) (by decide)) ?_; refine hK _ ?_; rfl)
           | (go_big_quiet_op; first
             | (refine hK _ ?_; rfl)
             | (refine ⟨_, fun _ _ => rfl, ?_⟩; refine hK _ ?_; rfl)
             | (apply Exists.intro; refine ⟨fun w1 hw1 => ?_, ?_⟩; · (first
                 | (go_at_call 28; exact (kK _ (hw1.rdold HC.out.1 HC.out.2)).mono fun e w2 ⟨h1, h2⟩ => ⟨h1, by rw [← h2]; exact hw1⟩))
                refine hK _ ?_; rfl))
       case hD => rfl
       simp only [Act.put, List.setIfInBounds_toArray, List.set_cons_succ, List.set_cons_zero])
    | ((with_reducible refine Any.at_ealloc ?_); refine Any.E_lay rfl rfl rfl (fun _ => rfl) ?_; intro B; simp only [Act.put, List.setIfInBounds_toArray, List.set_cons_succ, List.set_cons_zero])
    | ((with_reducible refine Any.at_eapp (t := 24) ?_); refine Any.E_appfull (j := 2) rfl rfl rfl rfl HC.out rfl (by decide) rfl rfl rfl hB3 (List.cons_ne_nil _ _) (.int .i64 0) 8 Tryz.underlying24 infoN rfl (by decide) hB0.out hB1.out hB2.out ?_; intro v9 x9 ha9; simp only [Act.put, List.setIfInBounds_toArray, List.set_cons_succ, List.set_cons_zero])
    | ((with_reducible refine Any.at_estore ?_); obtain ⟨n9, c9, rfl, g9⟩ := id ha9; replace g9 := Lib.hid g9; refine Any.E_putc rfl rfl rfl rfl rfl rfl (by kernel_rfl) rfl (by rw [deed_size rfl hp.out]; simp) ?_; simp only [Act.put, List.setIfInBounds_toArray, List.set_cons_succ, List.set_cons_zero])
    | ((with_reducible refine Any.at_ebsl ?_); refine Any.E_bsl (t := 3) rfl rfl rfl (fun w' => (by unfold execOp; go_simp)) ?_; intro B; simp only [Act.put, List.setIfInBounds_toArray, List.set_cons_succ, List.set_cons_zero]))
  try any_goals exact undef
  refine Any.E_nil ?_
  intro w9 hE9
  replace hv : Mem w0 w9 ([(bD, (deed #[.int .i64 st, .int .i64 pc, sv, (.slice ca n cc), .int .u64 (wk : Nat), .int .i64 sk, .int .i64 er] p #[.int .i64 22, .int .u64 (arg : Nat), wv, two, one]).setIfInBounds 3 (.slice (some ⟨x9.1, 0, none⟩) n9 c9)), x9] ++ L) ((1, .slice ca n n, cellsN C) :: R) := hE9.memr hv [1000, 3] (by decide)
  clear hE9
  simp only [List.cons_append, List.nil_append] at hv
  rw [deed_setl3 rfl] at hv
  simp only [List.setIfInBounds_toArray, List.set_cons_succ, List.set_cons_zero] at hv
  go_wp2_with (first
    | ((with_reducible refine at_load (T := 25) ?_); refine wl_ldc rfl _ _ rfl _ (hv.vars.row (by first | exact .head _ | exact .tail _ (.head _) | exact .tail _ (.tail _ (.head _)) | exact .tail _ (.tail _ (.tail _ (.head _))) | exact .tail _ (.tail _ (.tail _ (.tail _ (.head _)))) | exact .tail _ (.tail _ (.tail _ (.tail _ (.tail _ (.head _))))) | exact .tail _ (.tail _ (.tail _ (.tail _ (.tail _ (.tail _ (.head _)))))) | exact .tail _ (.tail _ (.tail _ (.tail _ (.tail _ (.tail _ (.tail _ (.head _))))))))) _ Tryz.underlying25 rfl (.int .u64 (arg : Nat)) (deed_hi rfl hp.out 1) ?_)
    | ((with_reducible refine at_store (T := 3) ?_); refine wl_stc rfl _ _ rfl (.int .i64 (arg : Nat)) rfl _ (hv.vars.row (by first | exact .head _ | exact .tail _ (.head _) | exact .tail _ (.tail _ (.head _)) | exact .tail _ (.tail _ (.tail _ (.head _))) | exact .tail _ (.tail _ (.tail _ (.tail _ (.head _)))) | exact .tail _ (.tail _ (.tail _ (.tail _ (.tail _ (.head _))))) | exact .tail _ (.tail _ (.tail _ (.tail _ (.tail _ (.tail _ (.head _)))))) | exact .tail _ (.tail _ (.tail _ (.tail _ (.tail _ (.tail _ (.tail _ (.head _))))))))) (hv.vars.sft (by first | exact .head _ | exact .tail _ (.head _) | exact .tail _ (.tail _ (.head _)) | exact .tail _ (.tail _ (.tail _ (.head _))) | exact .tail _ (.tail _ (.tail _ (.tail _ (.head _)))) | exact .tail _ (.tail _ (.tail _ (.tail _ (.tail _ (.head _))))) | exact .tail _ (.tail _ (.tail _ (.tail _ (.tail _ (.tail _ (.head _)))))) | exact .tail _ (.tail _ (.tail _ (.tail _ (.tail _ (.tail _ (.tail _ (.head _))))))))) (by kernel_rfl) rfl (by rw [deed_size rfl hp.out]; simp) ?_; intro w2 hw2; (first | (replace hv := hv.set 0 rfl hw2) | (replace hv := hv.set 1 rfl hw2) | (replace hv := hv.set 2 rfl hw2)); clear hw2; simp only [List.set] at hv; rw [deed_set1 rfl] at hv; simp only [List.setIfInBounds_toArray, List.set_cons_succ, List.set_cons_zero] at hv))
  go_ret2
  have hy := Mem.yield (v := .slice (some ⟨x9.1, 0, none⟩) n9 c9) (k := 1) (c := cellsN C ++ [.int .i64 (pc + 1)]) (L1 := [(bD, deed #[.int .i64 st, .int .i64 (arg : Nat), sv, (.slice (some ⟨x9.1, 0, none⟩) n9 c9), .int .u64 (wk : Nat), .int .i64 sk, .int .i64 er] p #[.int .i64 22, .int .u64 (arg : Nat), wv, two, one])]) hv ⟨n9, c9, rfl, g9.out⟩
  rw [← cellsN_snoc] at hy
  exact ⟨rfl, _, hy.keepR (fun y hy => (List.mem_cons.1 hy).elim (fun e => e ▸ Mem.z) (fun h => Mem.s (Mem.s h)))⟩
end Go.Proofs.YthpodinbbmgfoaaGreat
