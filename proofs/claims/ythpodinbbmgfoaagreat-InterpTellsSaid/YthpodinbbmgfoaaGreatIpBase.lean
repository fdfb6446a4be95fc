/-
  Threads and their stacks: the walks of the slices' Clone and Clip and of interp's Push and Pop.
-/
import Derived.Test.YthpodinbbmgfoaaGreatMem
import Derived.Test.YthpodinbbmgfoaaGreatProg
import Derived.WalkMore
import Derived.Laws.Cover3
import Derived.Test.YthpodinbbmgfoaaGreatNumBase
set_option linter.unusedVariables false
set_option linter.unusedSimpArgs false
namespace Go.Proofs.Ip
open Go
def IsSlice (v : Value) : Prop := ∃ a n c, v = .slice a n c
def cellsU (l : List Nat) : List Value := l.map fun n => Value.int .u64 (n : Nat)
def cellsN (l : List Int) : List Value := l.map fun n => Value.int .i64 n
theorem cellsU_len (l : List Nat) : (cellsU l).length = l.length := by simp [cellsU]
theorem cellsN_len (l : List Int) : (cellsN l).length = l.length := by simp [cellsN]
theorem cellsU_one (l : List Nat) : ∀ x ∈ cellsU l, x.oneCell' = true := by
  intro x hx
  obtain ⟨n, _, rfl⟩ := List.mem_map.1 hx; rfl
theorem cellsN_one (l : List Int) : ∀ x ∈ cellsN l, x.oneCell' = true := by
  intro x hx
  obtain ⟨n, _, rfl⟩ := List.mem_map.1 hx; rfl
theorem cellsU_snoc (l : List Nat) (n : Nat) : cellsU (l ++ [n]) = cellsU l ++ [.int .u64 (n : Nat)] := by simp [cellsU]
theorem cellsN_snoc (l : List Int) (n : Int) : cellsN (l ++ [n]) = cellsN l ++ [.int .i64 n] := by simp [cellsN]
theorem cellsU_drop (l : List Nat) (n : Nat) : cellsU (l.drop n) = (cellsU l).drop n := by simp [cellsU, List.map_drop]
theorem cellsU_take (l : List Nat) (n : Nat) : cellsU (l.take n) = (cellsU l).take n := by simp [cellsU, List.map_take]
theorem cellsN_take (l : List Int) (n : Nat) : cellsN (l.take n) = (cellsN l).take n := by simp [cellsN, List.map_take]
end Go.Proofs.Ip
namespace Go
open Go.RowKit
/-- A part of a slice of single cells. -/
theorem Rd.part {w : World} {b o n cap : Nat} {c : List Value} (h : Rd w 1 (.slice (Option.some ⟨b, o, none⟩) n cap) c) {lo hi : Nat} (h1 : lo ≤ hi) (h2 : hi ≤ n) {cp : Nat} (hc1 : hi - lo ≤ cp) (hc2 : cp ≤ cap) : Rd w 1 (.slice (Option.some ⟨b, o + lo, none⟩) (hi - lo) cp) ((c.drop lo).take (hi - lo)) := by
  obtain ⟨ao, n', cap', e, g1, g2, g3, g4, g5⟩ := h
  cases e
  rw [Nat.mul_one] at g1
  refine ⟨Option.some ⟨b, o + lo, none⟩, hi - lo, cp, rfl, ?_, hc1, by omega, fun h => (by cases h), fun i hi' => ?_⟩
  · rw [List.length_take, List.length_drop]; omega
  · rw [List.length_take, List.length_drop] at hi'
    obtain ⟨b', o', e', hb, hc⟩ := g5 (lo + i) (by omega)
    cases e'
    refine ⟨b, o + lo, rfl, hb, ?_⟩
    rw [Nat.add_assoc, hc, List.getElem?_take, if_pos (by omega), List.getElem?_drop]
theorem Rd.cut {w : World} {k n cap : Nat} {ao : Option Addr} {c : List Value} (h : Rd w k (.slice ao n cap) c) {cap' : Nat} (h1 : n ≤ cap') (h2 : cap' ≤ cap) : Rd w k (.slice ao n cap') c := by
  obtain ⟨ao', n', cap0, e, g1, g2, g3, g4, g5⟩ := h
  cases e
  exact ⟨ao, n, cap', rfl, g1, h1, by omega, fun h => ⟨(g4 h).1, by have := (g4 h).2; omega⟩, g5⟩
theorem Rd.es (w : World) (a : Addr) (cap : Nat) (h : cap ≤ maxLen) : Rd w 1 (.slice (Option.some a) 0 cap) [] := ⟨Option.some a, 0, cap, rfl, rfl, Nat.zero_le _, h, fun h => (by cases h), fun i hi => by simp at hi⟩
theorem Rd.no {w : World} {k : Nat} {n cap : Nat} {c : List Value} (h : Rd w k (.slice none n cap) c) : n = 0 ∧ cap = 0 ∧ c = [] := by
  obtain ⟨ao, n', cap', e, g1, g2, g3, g4, g5⟩ := h
  cases e
  obtain ⟨rfl, rfl⟩ := g4 rfl
  exact ⟨rfl, rfl, List.length_eq_zero_iff.1 (by omega)⟩
end Go
namespace Go.Proofs.YthpodinbbmgfoaaGreat
open Go.Proofs.Ip Go.RowKit
theorem nilU (a : Option Addr) (l c : Nat) (w : World) : (binOp .eql 23 (.slice a l c) (.slice none 0 0)).run Tryz.prog w = .ok (.bool a.isNone) w := by
  simp [binOp, Sem.run_bind, run_equal_slice_nil w 23 _ a l c Tryz.underlying23]
theorem nilN (a : Option Addr) (l c : Nat) (w : World) : (binOp .eql 24 (.slice a l c) (.slice none 0 0)).run Tryz.prog w = .ok (.bool a.isNone) w := by
  simp [binOp, Sem.run_bind, run_equal_slice_nil w 24 _ a l c Tryz.underlying24]
theorem infoU : (Tryz.prog.info? 25).map (fun i => (i.zero, i.size, i.bytes)) = some (some (.int .u64 0), 1, 8) := by kernel_rfl
theorem infoN : (Tryz.prog.info? 3).map (fun i => (i.zero, i.size, i.bytes)) = some (some (.int .i64 0), 1, 8) := by kernel_rfl
theorem infoT : (Tryz.prog.info? 28).map (·.size) = some 7 := by kernel_rfl
set_option maxRecDepth 100000 in
set_option maxHeartbeats 2000000 in
theorem CloneU_any (v : Value) (c : List Value) (w : World) (hrd : Rd w 1 v c) (h1 : ∀ x ∈ c, x.oneCell' = true) (hl : c.length ≤ 1000) : Calls Tryz.prog 22 #[v] w fun e w' => ∃ v', e = .returned v' ∧ FR w w' 1 v' c ∧ New w w' := by
  have hq := nilU
  have HR := Lib.hid hrd
  have H1 := Lib.hid h1
  have HL := Lib.hid hl
  obtain ⟨ao, n, cap, rfl, g1, g2, g3, g4, g5⟩ := hrd
  clear g1 g2 g3 g5 h1 hl
  cases ao with
  | none =>
    obtain ⟨rfl, rfl⟩ := g4 rfl
    clear g4
    go_enter Tryz.func22, Tryz.ntmps22
    go_wp2
    go_ret
    have := (HR.out).no
    exact ⟨_, rfl, by rw [this.2.2]; exact FR.nil _ _ _, Below.refl _ _⟩
  | some a =>
    clear g4
    have ho : OwnS w (w.alloc (.cells #[] 25)) [] 25 1 (.slice (some ⟨w.heap.size, 0, none⟩) 0 0) [] := ⟨(Vars.nil w).new (made_alloc w _ _).new, .inr ⟨(w.heap.size, #[]), ⟨0, 0, rfl, rfl, Nat.le_refl _, Nat.zero_le _, rfl, rfl⟩, (Vars.nil w).madeAt ⟨rfl, made_alloc w _ _⟩⟩⟩
    go_enter Tryz.func22, Tryz.ntmps22
    go_wp2_with (first
      | ((with_reducible refine at_append (t := 23) ?_); refine wl_app rfl rfl ho (.int .u64 0) 8 Tryz.underlying23 infoU rfl (by decide) rfl (HR.out.below ho.below) H1.out (by have := HL.out; simp only [List.length_nil]; unfold maxLen; omega) (by have := HL.out; simp only [List.length_nil]; omega) ?_; clear ho; intro v2 w3 ho))
    go_ret
    rw [List.nil_append] at ho
    exact ⟨_, rfl, ho.fr, ho.below⟩
set_option maxRecDepth 100000 in
set_option maxHeartbeats 2000000 in
theorem CloneN_any (v : Value) (c : List Value) (w : World) (hrd : Rd w 1 v c) (h1 : ∀ x ∈ c, x.oneCell' = true) (hl : c.length ≤ 1000) : Calls Tryz.prog 27 #[v] w fun e w' => ∃ v', e = .returned v' ∧ FR w w' 1 v' c ∧ New w w' := by
  have hq := nilN
  have HR := Lib.hid hrd
  have H1 := Lib.hid h1
  have HL := Lib.hid hl
  obtain ⟨ao, n, cap, rfl, g1, g2, g3, g4, g5⟩ := hrd
  clear g1 g2 g3 g5 h1 hl
  cases ao with
  | none =>
    obtain ⟨rfl, rfl⟩ := g4 rfl
    clear g4
    go_enter Tryz.func27, Tryz.ntmps27
    go_wp2
    go_ret
    have := (HR.out).no
    exact ⟨_, rfl, by rw [this.2.2]; exact FR.nil _ _ _, Below.refl _ _⟩
  | some a =>
    clear g4
    have ho : OwnS w (w.alloc (.cells #[] 3)) [] 3 1 (.slice (some ⟨w.heap.size, 0, none⟩) 0 0) [] := ⟨(Vars.nil w).new (made_alloc w _ _).new, .inr ⟨(w.heap.size, #[]), ⟨0, 0, rfl, rfl, Nat.le_refl _, Nat.zero_le _, rfl, rfl⟩, (Vars.nil w).madeAt ⟨rfl, made_alloc w _ _⟩⟩⟩
    go_enter Tryz.func27, Tryz.ntmps27
    go_wp2_with (first
      | ((with_reducible refine at_append (t := 24) ?_); refine wl_app rfl rfl ho (.int .i64 0) 8 Tryz.underlying24 infoN rfl (by decide) rfl (HR.out.below ho.below) H1.out (by have := HL.out; simp only [List.length_nil]; unfold maxLen; omega) (by have := HL.out; simp only [List.length_nil]; omega) ?_; clear ho; intro v2 w3 ho))
    go_ret
    rw [List.nil_append] at ho
    exact ⟨_, rfl, ho.fr, ho.below⟩
set_option maxRecDepth 100000 in
set_option maxHeartbeats 2000000 in
theorem ClipU_any (ao : Option Addr) (n cap : Nat) (c : List Value) (w : World) (hrd : Rd w 1 (.slice ao n cap) c) : Calls Tryz.prog 21 #[.slice ao n cap] w fun e w' => e = .returned (.slice ao n n) ∧ Rd w 1 (.slice ao n n) c ∧ w = w' := by
  have hc : Rd w 1 (.slice ao n n) c := by
    obtain ⟨ao', n', cap', e, _, g2, _⟩ := id hrd
    cases e
    exact hrd.cut (Nat.le_refl _) g2
  have HR := Lib.hid hrd
  have HC := Lib.hid hc
  obtain ⟨ao', n', cap', e, g1, g2, g3, g4, g5⟩ := hrd
  cases e
  have hm : n ≤ 9223372036854775807 := by unfold maxLen at g3; omega
  have g2' : n ≤ cap := g2
  have g2i : (n : Int) ≤ (cap : Int) := by omega
  have g0 : (0 : Int) ≤ (n : Int) := by omega
  clear g1 g2 g3 g5 hc
  cases ao with
  | none =>
    obtain ⟨rfl, rfl⟩ := g4 rfl
    clear g4
    go_enter Tryz.func21, Tryz.ntmps21
    go_wp2
    go_ret
    exact ⟨rfl, HC.out, rfl⟩
  | some a =>
    clear g4
    go_enter Tryz.func21, Tryz.ntmps21
    go_wp2
    go_ret
    exact ⟨rfl, HC.out, rfl⟩
set_option maxRecDepth 100000 in
set_option maxHeartbeats 2000000 in
theorem ClipN_any (ao : Option Addr) (n cap : Nat) (c : List Value) (w : World) (hrd : Rd w 1 (.slice ao n cap) c) : Calls Tryz.prog 28 #[.slice ao n cap] w fun e w' => e = .returned (.slice ao n n) ∧ Rd w 1 (.slice ao n n) c ∧ w = w' := by
  have hc : Rd w 1 (.slice ao n n) c := by
    obtain ⟨ao', n', cap', e, _, g2, _⟩ := id hrd
    cases e
    exact hrd.cut (Nat.le_refl _) g2
  have HR := Lib.hid hrd
  have HC := Lib.hid hc
  obtain ⟨ao', n', cap', e, g1, g2, g3, g4, g5⟩ := hrd
  cases e
  have hm : n ≤ 9223372036854775807 := by unfold maxLen at g3; omega
  have g2' : n ≤ cap := g2
  have g2i : (n : Int) ≤ (cap : Int) := by omega
  have g0 : (0 : Int) ≤ (n : Int) := by omega
  clear g1 g2 g3 g5 hc
  cases ao with
  | none =>
    obtain ⟨rfl, rfl⟩ := g4 rfl
    clear g4
    go_enter Tryz.func28, Tryz.ntmps28
    go_wp2
    go_ret
    exact ⟨rfl, HC.out, rfl⟩
  | some a =>
    clear g4
    go_enter Tryz.func28, Tryz.ntmps28
    go_wp2
    go_ret
    exact ⟨rfl, HC.out, rfl⟩
set_option maxRecDepth 100000 in
set_option maxHeartbeats 4000000 in
theorem Push_no (st pc sk er : Int) (wk : Nat) (sv cv : Value) (S : List Nat) (x : Nat) (w : World) (hcv : IsSlice cv) (hrd : Rd w 1 sv (cellsU S)) (hS : 32 ≤ S.length) :
    Calls Tryz.prog 9 #[.agg #[.int .i64 st, .int .i64 pc, sv, cv, .int .u64 (wk : Nat), .int .i64 sk, .int .i64 er], .int .u64 (x : Nat)] w fun e w' => e = .returned (.tuple #[.agg #[.int .i64 st, .int .i64 pc, sv, cv, .int .u64 (wk : Nat), .int .i64 sk, .int .i64 er], .bool false]) ∧ New w w' := by
  obtain ⟨ca, cn, cc, rfl⟩ := hcv
  obtain ⟨ao, n, cap, rfl, g1, g2, g3, g4, g5⟩ := hrd
  rw [cellsU_len, Nat.mul_one] at g1
  have hn : (32 : Int) ≤ (n : Int) := by omega
  clear g1 g2 g3 g4 g5 hS
  have hv := Mem.nil w
  go_enter Tryz.func9, Tryz.ntmps9
  go_wp2_with (first
    | ((with_reducible refine at_box (T := 28) (dst := some 2) ?_); refine wl_newb rfl #[.int .i64 st, .int .i64 pc, _, (.slice ca cn cc), .int .u64 (wk : Nat), .int .i64 sk, .int .i64 er] 28 (fun _ => rfl) ?_; intro b2 w2 hm2; replace hv := hv.madeAt hm2; clear hm2)
    | ((with_reducible refine at_alloc (T := 28) (dst := some 4) ?_); refine wl_newb rfl #[.int .i64 0, .int .i64 0, .slice none 0 0, .slice none 0 0, .int .u64 0, .int .i64 0, .int .i64 0] 28 (fun _ => rfl) ?_; intro b4 w2 hm2; replace hv := hv.madeAt hm2; clear hm2)
    | ((with_reducible refine at_load (T := 23) ?_); refine wl_ldc rfl _ _ rfl _ (hv.vars.row (by first | exact .head _ | exact .tail _ (.head _) | exact .tail _ (.tail _ (.head _)) | exact .tail _ (.tail _ (.tail _ (.head _))) | exact .tail _ (.tail _ (.tail _ (.tail _ (.head _)))) | exact .tail _ (.tail _ (.tail _ (.tail _ (.tail _ (.head _))))) | exact .tail _ (.tail _ (.tail _ (.tail _ (.tail _ (.tail _ (.head _)))))) | exact .tail _ (.tail _ (.tail _ (.tail _ (.tail _ (.tail _ (.tail _ (.head _))))))))) _ Tryz.underlying23 rfl _ rfl ?_)
    | ((with_reducible refine at_load (T := 28) ?_); refine wl_ldv rfl _ rfl _ (hv.vars.row (by first | exact .head _ | exact .tail _ (.head _) | exact .tail _ (.tail _ (.head _)) | exact .tail _ (.tail _ (.tail _ (.head _))) | exact .tail _ (.tail _ (.tail _ (.tail _ (.head _)))) | exact .tail _ (.tail _ (.tail _ (.tail _ (.tail _ (.head _))))) | exact .tail _ (.tail _ (.tail _ (.tail _ (.tail _ (.tail _ (.head _)))))) | exact .tail _ (.tail _ (.tail _ (.tail _ (.tail _ (.tail _ (.tail _ (.head _))))))))) 7 _ Tryz.underlying28 rfl infoT (by decide) rfl ?_)
    | ((with_reducible refine at_store (T := 28) ?_); refine wl_stv rfl _ rfl _ rfl _ (hv.vars.row (by first | exact .head _ | exact .tail _ (.head _) | exact .tail _ (.tail _ (.head _)) | exact .tail _ (.tail _ (.tail _ (.head _))) | exact .tail _ (.tail _ (.tail _ (.tail _ (.head _)))) | exact .tail _ (.tail _ (.tail _ (.tail _ (.tail _ (.head _))))) | exact .tail _ (.tail _ (.tail _ (.tail _ (.tail _ (.tail _ (.head _)))))) | exact .tail _ (.tail _ (.tail _ (.tail _ (.tail _ (.tail _ (.tail _ (.head _))))))))) (hv.vars.sft (by first | exact .head _ | exact .tail _ (.head _) | exact .tail _ (.tail _ (.head _)) | exact .tail _ (.tail _ (.tail _ (.head _))) | exact .tail _ (.tail _ (.tail _ (.tail _ (.head _)))) | exact .tail _ (.tail _ (.tail _ (.tail _ (.tail _ (.head _))))) | exact .tail _ (.tail _ (.tail _ (.tail _ (.tail _ (.tail _ (.head _)))))) | exact .tail _ (.tail _ (.tail _ (.tail _ (.tail _ (.tail _ (.tail _ (.head _))))))))) 7 infoT rfl rfl (by simp [Value.oneCell']) ?_; intro w2 hw2; (first | (replace hv := hv.set 0 rfl hw2) | (replace hv := hv.set 1 rfl hw2) | (replace hv := hv.set 2 rfl hw2)); clear hw2; simp only [List.set] at hv))
  refine ret_cell2 Tryz.results9 rfl (read_row _ _ 28 _ (hv.vars.row (by first | exact .head _ | exact .tail _ (.head _) | exact .tail _ (.tail _ (.head _)))) 7 _ Tryz.underlying28 rfl infoT (by decide) rfl) rfl rfl ⟨rfl, hv.below⟩
set_option maxRecDepth 100000 in
set_option maxHeartbeats 4000000 in
theorem Push_yes (st pc sk er : Int) (wk : Nat) (sv cv : Value) (S : List Nat) (x : Nat) (w : World) (hcv : IsSlice cv) (hrd : Rd w 1 sv (cellsU S)) (hS : S.length < 32) :
    Calls Tryz.prog 9 #[.agg #[.int .i64 st, .int .i64 pc, sv, cv, .int .u64 (wk : Nat), .int .i64 sk, .int .i64 er], .int .u64 (x : Nat)] w fun e w' => ∃ sv', e = .returned (.tuple #[.agg #[.int .i64 st, .int .i64 pc, sv', cv, .int .u64 (wk : Nat), .int .i64 sk, .int .i64 er], .bool true]) ∧ FR w w' 1 sv' (cellsU (S ++ [x])) ∧ New w w' := by
  obtain ⟨ca, cn, cc, rfl⟩ := hcv
  have hv := (Mem.nil w).old hrd
  obtain ⟨ao, n, cap, rfl, g1, g2, g3, g4, g5⟩ := hrd
  rw [cellsU_len, Nat.mul_one] at g1
  have hn : ¬ (32 : Int) ≤ (n : Int) := by omega
  have HS : Hid (S.length < 32) := Lib.hid hS
  have hB3 : 1 ≤ maxLen := by unfold maxLen; omega
  have hB0 : Hid (∀ y ∈ [Value.int .u64 (x : Nat)], y.oneCell' = true) := Lib.hid (fun y hy => by rw [List.mem_singleton.1 hy]; rfl)
  have hB1 : ((cellsU S).length + [Value.int .u64 (x : Nat)].length) / 1 ≤ maxLen := by rw [cellsU_len]; simp only [List.length_cons, List.length_nil]; unfold maxLen; omega
  have hB2 : ((cellsU S).length + [Value.int .u64 (x : Nat)].length) / 1 * 8 ≤ 140737488355328 := by rw [cellsU_len]; simp only [List.length_cons, List.length_nil]; omega
  clear g1 g2 g3 g4 g5 hS
  go_enter Tryz.func9, Tryz.ntmps9
  go_wp2_with (first
    | ((with_reducible refine at_box (T := 28) (dst := some 2) ?_); refine wl_newb rfl #[.int .i64 st, .int .i64 pc, _, (.slice ca cn cc), .int .u64 (wk : Nat), .int .i64 sk, .int .i64 er] 28 (fun _ => rfl) ?_; intro b2 w2 hm2; replace hv := hv.madeAt hm2; clear hm2)
    | ((with_reducible refine at_alloc (T := 28) (dst := some 4) ?_); refine wl_newb rfl #[.int .i64 0, .int .i64 0, .slice none 0 0, .slice none 0 0, .int .u64 0, .int .i64 0, .int .i64 0] 28 (fun _ => rfl) ?_; intro b4 w2 hm2; replace hv := hv.madeAt hm2; clear hm2)
    | ((with_reducible refine at_load (T := 23) ?_); refine wl_ldc rfl _ _ rfl _ (hv.vars.row (by first | exact .head _ | exact .tail _ (.head _) | exact .tail _ (.tail _ (.head _)) | exact .tail _ (.tail _ (.tail _ (.head _))) | exact .tail _ (.tail _ (.tail _ (.tail _ (.head _)))) | exact .tail _ (.tail _ (.tail _ (.tail _ (.tail _ (.head _))))) | exact .tail _ (.tail _ (.tail _ (.tail _ (.tail _ (.tail _ (.head _)))))) | exact .tail _ (.tail _ (.tail _ (.tail _ (.tail _ (.tail _ (.tail _ (.head _))))))))) _ Tryz.underlying23 rfl _ rfl ?_)
    | ((with_reducible refine at_load (T := 28) ?_); refine wl_ldv rfl _ rfl _ (hv.vars.row (by first | exact .head _ | exact .tail _ (.head _) | exact .tail _ (.tail _ (.head _)) | exact .tail _ (.tail _ (.tail _ (.head _))) | exact .tail _ (.tail _ (.tail _ (.tail _ (.head _)))) | exact .tail _ (.tail _ (.tail _ (.tail _ (.tail _ (.head _))))) | exact .tail _ (.tail _ (.tail _ (.tail _ (.tail _ (.tail _ (.head _)))))) | exact .tail _ (.tail _ (.tail _ (.tail _ (.tail _ (.tail _ (.tail _ (.head _))))))))) 7 _ Tryz.underlying28 rfl infoT (by decide) rfl ?_)
    | ((with_reducible refine at_store (T := 23) ?_); refine wl_stc rfl _ _ rfl (.slice ao3 n3 cap3) rfl _ (hv.vars.row (by first | exact .head _ | exact .tail _ (.head _) | exact .tail _ (.tail _ (.head _)) | exact .tail _ (.tail _ (.tail _ (.head _))) | exact .tail _ (.tail _ (.tail _ (.tail _ (.head _)))) | exact .tail _ (.tail _ (.tail _ (.tail _ (.tail _ (.head _))))) | exact .tail _ (.tail _ (.tail _ (.tail _ (.tail _ (.tail _ (.head _)))))) | exact .tail _ (.tail _ (.tail _ (.tail _ (.tail _ (.tail _ (.tail _ (.head _))))))))) (hv.vars.sft (by first | exact .head _ | exact .tail _ (.head _) | exact .tail _ (.tail _ (.head _)) | exact .tail _ (.tail _ (.tail _ (.head _))) | exact .tail _ (.tail _ (.tail _ (.tail _ (.head _)))) | exact .tail _ (.tail _ (.tail _ (.tail _ (.tail _ (.head _))))) | exact .tail _ (.tail _ (.tail _ (.tail _ (.tail _ (.tail _ (.head _)))))) | exact .tail _ (.tail _ (.tail _ (.tail _ (.tail _ (.tail _ (.tail _ (.head _))))))))) (by kernel_rfl) rfl (by simp) ?_; intro w2 hw2; (first | (replace hv := hv.set 0 rfl hw2) | (replace hv := hv.set 1 rfl hw2) | (replace hv := hv.set 2 rfl hw2)); clear hw2; simp only [List.set] at hv; simp only [List.setIfInBounds_toArray, List.set_cons_succ, List.set_cons_zero] at hv)
    | ((with_reducible refine at_store (T := 28) ?_); refine wl_stv rfl _ rfl _ rfl _ (hv.vars.row (by first | exact .head _ | exact .tail _ (.head _) | exact .tail _ (.tail _ (.head _)) | exact .tail _ (.tail _ (.tail _ (.head _))) | exact .tail _ (.tail _ (.tail _ (.tail _ (.head _)))) | exact .tail _ (.tail _ (.tail _ (.tail _ (.tail _ (.head _))))) | exact .tail _ (.tail _ (.tail _ (.tail _ (.tail _ (.tail _ (.head _)))))) | exact .tail _ (.tail _ (.tail _ (.tail _ (.tail _ (.tail _ (.tail _ (.head _))))))))) (hv.vars.sft (by first | exact .head _ | exact .tail _ (.head _) | exact .tail _ (.tail _ (.head _)) | exact .tail _ (.tail _ (.tail _ (.head _))) | exact .tail _ (.tail _ (.tail _ (.tail _ (.head _)))) | exact .tail _ (.tail _ (.tail _ (.tail _ (.tail _ (.head _))))) | exact .tail _ (.tail _ (.tail _ (.tail _ (.tail _ (.tail _ (.head _)))))) | exact .tail _ (.tail _ (.tail _ (.tail _ (.tail _ (.tail _ (.tail _ (.head _))))))))) 7 infoT rfl rfl (by simp [Value.oneCell']) ?_; intro w2 hw2; (first | (replace hv := hv.set 0 rfl hw2) | (replace hv := hv.set 1 rfl hw2) | (replace hv := hv.set 2 rfl hw2)); clear hw2; simp only [List.set] at hv)
    | (go_at_call 21; (with_reducible refine (ClipU_any _ _ _ _ _ (hv.rd (by first | exact Mem.z | exact Mem.s (Mem.z) | exact Mem.s (Mem.s (Mem.z)) | exact Mem.s (Mem.s (Mem.s (Mem.z))) | exact Mem.s (Mem.s (Mem.s (Mem.s (Mem.z)))) | exact Mem.s (Mem.s (Mem.s (Mem.s (Mem.s (Mem.z))))) | exact Mem.s (Mem.s (Mem.s (Mem.s (Mem.s (Mem.s (Mem.z)))))) | exact Mem.s (Mem.s (Mem.s (Mem.s (Mem.s (Mem.s (Mem.s (Mem.z))))))) | exact Mem.s (Mem.s (Mem.s (Mem.s (Mem.s (Mem.s (Mem.s (Mem.s (Mem.z))))))))))).mono ?_); rintro e w1 ⟨rfl, hr1, rfl⟩)
    | ((with_reducible refine at_append (t := 23) ?_); refine wl_full (news := [.int .u64 (x : Nat)]) rfl rfl (hr1.new (made_alloc _ _ _).new) (.int .u64 0) 8 Tryz.underlying23 infoU rfl (by decide) rfl (rd_alloc _ 1 1 #[.int .u64 (x : Nat)] _ rfl hB3) (List.cons_ne_nil _ _) hB0.out hB1 hB2 ?_; clear hr1; intro v2 w3 hn3 hf3; replace hv := hv.new (made_alloc _ #[.int .u64 (x : Nat)] 25).new; obtain ⟨ao3, n3, cap3, rfl, _⟩ := id hf3.1; have hw3 := Lib.hid (FR.since (w := w) hf3 hv.below.size).2; replace hv := hv.fresh hn3 hf3; clear hn3 hf3))
  refine ret_cell2 Tryz.results9 rfl (read_row _ _ 28 _ (hv.vars.row (by first | exact .head _ | exact .tail _ (.head _) | exact .tail _ (.tail _ (.head _)))) 7 _ Tryz.underlying28 rfl infoT (by decide) rfl) rfl rfl ⟨_, rfl, ⟨by rw [cellsU_snoc]; exact hv.rd (by first | exact Mem.z | exact Mem.s (Mem.z) | exact Mem.s (Mem.s (Mem.z)) | exact Mem.s (Mem.s (Mem.s (Mem.z))) | exact Mem.s (Mem.s (Mem.s (Mem.s (Mem.z)))) | exact Mem.s (Mem.s (Mem.s (Mem.s (Mem.s (Mem.z))))) | exact Mem.s (Mem.s (Mem.s (Mem.s (Mem.s (Mem.s (Mem.z)))))) | exact Mem.s (Mem.s (Mem.s (Mem.s (Mem.s (Mem.s (Mem.s (Mem.z))))))) | exact Mem.s (Mem.s (Mem.s (Mem.s (Mem.s (Mem.s (Mem.s (Mem.s (Mem.z))))))))), by rw [cellsU_snoc]; exact hw3.out⟩, hv.below⟩
set_option maxRecDepth 100000 in
set_option maxHeartbeats 4000000 in
theorem Pop_no (st pc sk er : Int) (wk : Nat) (sv cv : Value) (S : List Nat) (k : Int) (w : World) (hcv : IsSlice cv) (hrd : Rd w 1 sv (cellsU S)) (hS : S.length ≤ 1000) (hk1 : -9223372036854775808 ≤ k) (hk2 : k ≤ 9223372036854775807) (hk : k < 0 ∨ (S.length : Int) < k) :
    Calls Tryz.prog 11 #[.agg #[.int .i64 st, .int .i64 pc, sv, cv, .int .u64 (wk : Nat), .int .i64 sk, .int .i64 er], .int .i64 k] w fun e w' => e = .returned (.tuple #[.agg #[.int .i64 st, .int .i64 pc, sv, cv, .int .u64 (wk : Nat), .int .i64 sk, .int .i64 er], .slice none 0 0, .bool false]) ∧ New w w' := by
  obtain ⟨ca, cn, cc, rfl⟩ := hcv
  obtain ⟨ao, n, cap, rfl, g1, g2, g3, g4, g5⟩ := hrd
  rw [cellsU_len, Nat.mul_one] at g1
  have hn : n ≤ 1000 := by omega
  have hk' : k < 0 ∨ (0 ≤ k ∧ (n : Int) < k) := by omega
  clear g1 g2 g3 g4 g5 hS hk
  have hv := Mem.nil w
  rcases hk' with hk | ⟨hk0, hk⟩
  · go_enter Tryz.func11, Tryz.ntmps11
    go_wp2_with (first
      | ((with_reducible refine at_box (T := 28) (dst := some 2) ?_); refine wl_newb rfl #[.int .i64 st, .int .i64 pc, _, (.slice ca cn cc), .int .u64 (wk : Nat), .int .i64 sk, .int .i64 er] 28 (fun _ => rfl) ?_; intro b2 w2 hm2; replace hv := hv.madeAt hm2; clear hm2)
      | ((with_reducible refine at_alloc (T := 28) (dst := some 4) ?_); refine wl_newb rfl #[.int .i64 0, .int .i64 0, .slice none 0 0, .slice none 0 0, .int .u64 0, .int .i64 0, .int .i64 0] 28 (fun _ => rfl) ?_; intro b4 w2 hm2; replace hv := hv.madeAt hm2; clear hm2)
      | ((with_reducible refine at_load (T := 23) ?_); refine wl_ldc rfl _ _ rfl _ (hv.vars.row (by first | exact .head _ | exact .tail _ (.head _) | exact .tail _ (.tail _ (.head _)) | exact .tail _ (.tail _ (.tail _ (.head _))) | exact .tail _ (.tail _ (.tail _ (.tail _ (.head _)))) | exact .tail _ (.tail _ (.tail _ (.tail _ (.tail _ (.head _))))) | exact .tail _ (.tail _ (.tail _ (.tail _ (.tail _ (.tail _ (.head _)))))) | exact .tail _ (.tail _ (.tail _ (.tail _ (.tail _ (.tail _ (.tail _ (.head _))))))))) _ Tryz.underlying23 rfl _ rfl ?_)
      | ((with_reducible refine at_load (T := 28) ?_); refine wl_ldv rfl _ rfl _ (hv.vars.row (by first | exact .head _ | exact .tail _ (.head _) | exact .tail _ (.tail _ (.head _)) | exact .tail _ (.tail _ (.tail _ (.head _))) | exact .tail _ (.tail _ (.tail _ (.tail _ (.head _)))) | exact .tail _ (.tail _ (.tail _ (.tail _ (.tail _ (.head _))))) | exact .tail _ (.tail _ (.tail _ (.tail _ (.tail _ (.tail _ (.head _)))))) | exact .tail _ (.tail _ (.tail _ (.tail _ (.tail _ (.tail _ (.tail _ (.head _))))))))) 7 _ Tryz.underlying28 rfl infoT (by decide) rfl ?_)
      | ((with_reducible refine at_store (T := 28) ?_); refine wl_stv rfl _ rfl _ rfl _ (hv.vars.row (by first | exact .head _ | exact .tail _ (.head _) | exact .tail _ (.tail _ (.head _)) | exact .tail _ (.tail _ (.tail _ (.head _))) | exact .tail _ (.tail _ (.tail _ (.tail _ (.head _)))) | exact .tail _ (.tail _ (.tail _ (.tail _ (.tail _ (.head _))))) | exact .tail _ (.tail _ (.tail _ (.tail _ (.tail _ (.tail _ (.head _)))))) | exact .tail _ (.tail _ (.tail _ (.tail _ (.tail _ (.tail _ (.tail _ (.head _))))))))) (hv.vars.sft (by first | exact .head _ | exact .tail _ (.head _) | exact .tail _ (.tail _ (.head _)) | exact .tail _ (.tail _ (.tail _ (.head _))) | exact .tail _ (.tail _ (.tail _ (.tail _ (.head _)))) | exact .tail _ (.tail _ (.tail _ (.tail _ (.tail _ (.head _))))) | exact .tail _ (.tail _ (.tail _ (.tail _ (.tail _ (.tail _ (.head _)))))) | exact .tail _ (.tail _ (.tail _ (.tail _ (.tail _ (.tail _ (.tail _ (.head _))))))))) 7 infoT rfl rfl (by simp [Value.oneCell']) ?_; intro w2 hw2; (first | (replace hv := hv.set 0 rfl hw2) | (replace hv := hv.set 1 rfl hw2) | (replace hv := hv.set 2 rfl hw2)); clear hw2; simp only [List.set] at hv))
    refine ret_cell3 Tryz.results11 rfl (read_row _ _ 28 _ (hv.vars.row (by first | exact .head _ | exact .tail _ (.head _) | exact .tail _ (.tail _ (.head _)))) 7 _ Tryz.underlying28 rfl infoT (by decide) rfl) rfl rfl rfl ⟨rfl, hv.below⟩
  · have q0 : ¬ k < 0 := by omega
    have q1 : IntKind.i64.wrap ((n : Int) - k) = (n : Int) - k := IntWalk.i64_in _ (by omega)
    have q2 : (n : Int) - k < 0 := by omega
    go_enter Tryz.func11, Tryz.ntmps11
    go_wp2_with (first
      | ((with_reducible refine at_box (T := 28) (dst := some 2) ?_); refine wl_newb rfl #[.int .i64 st, .int .i64 pc, _, (.slice ca cn cc), .int .u64 (wk : Nat), .int .i64 sk, .int .i64 er] 28 (fun _ => rfl) ?_; intro b2 w2 hm2; replace hv := hv.madeAt hm2; clear hm2)
      | ((with_reducible refine at_alloc (T := 28) (dst := some 4) ?_); refine wl_newb rfl #[.int .i64 0, .int .i64 0, .slice none 0 0, .slice none 0 0, .int .u64 0, .int .i64 0, .int .i64 0] 28 (fun _ => rfl) ?_; intro b4 w2 hm2; replace hv := hv.madeAt hm2; clear hm2)
      | ((with_reducible refine at_load (T := 23) ?_); refine wl_ldc rfl _ _ rfl _ (hv.vars.row (by first | exact .head _ | exact .tail _ (.head _) | exact .tail _ (.tail _ (.head _)) | exact .tail _ (.tail _ (.tail _ (.head _))) | exact .tail _ (.tail _ (.tail _ (.tail _ (.head _)))) | exact .tail _ (.tail _ (.tail _ (.tail _ (.tail _ (.head _))))) | exact .tail _ (.tail _ (.tail _ (.tail _ (.tail _ (.tail _ (.head _)))))) | exact .tail _ (.tail _ (.tail _ (.tail _ (.tail _ (.tail _ (.tail _ (.head _))))))))) _ Tryz.underlying23 rfl _ rfl ?_)
      | ((with_reducible refine at_load (T := 28) ?_); refine wl_ldv rfl _ rfl _ (hv.vars.row (by first | exact .head _ | exact .tail _ (.head _) | exact .tail _ (.tail _ (.head _)) | exact .tail _ (.tail _ (.tail _ (.head _))) | exact .tail _ (.tail _ (.tail _ (.tail _ (.head _)))) | exact .tail _ (.tail _ (.tail _ (.tail _ (.tail _ (.head _))))) | exact .tail _ (.tail _ (.tail _ (.tail _ (.tail _ (.tail _ (.head _)))))) | exact .tail _ (.tail _ (.tail _ (.tail _ (.tail _ (.tail _ (.tail _ (.head _))))))))) 7 _ Tryz.underlying28 rfl infoT (by decide) rfl ?_)
      | ((with_reducible refine at_store (T := 28) ?_); refine wl_stv rfl _ rfl _ rfl _ (hv.vars.row (by first | exact .head _ | exact .tail _ (.head _) | exact .tail _ (.tail _ (.head _)) | exact .tail _ (.tail _ (.tail _ (.head _))) | exact .tail _ (.tail _ (.tail _ (.tail _ (.head _)))) | exact .tail _ (.tail _ (.tail _ (.tail _ (.tail _ (.head _))))) | exact .tail _ (.tail _ (.tail _ (.tail _ (.tail _ (.tail _ (.head _)))))) | exact .tail _ (.tail _ (.tail _ (.tail _ (.tail _ (.tail _ (.tail _ (.head _))))))))) (hv.vars.sft (by first | exact .head _ | exact .tail _ (.head _) | exact .tail _ (.tail _ (.head _)) | exact .tail _ (.tail _ (.tail _ (.head _))) | exact .tail _ (.tail _ (.tail _ (.tail _ (.head _)))) | exact .tail _ (.tail _ (.tail _ (.tail _ (.tail _ (.head _))))) | exact .tail _ (.tail _ (.tail _ (.tail _ (.tail _ (.tail _ (.head _)))))) | exact .tail _ (.tail _ (.tail _ (.tail _ (.tail _ (.tail _ (.tail _ (.head _))))))))) 7 infoT rfl rfl (by simp [Value.oneCell']) ?_; intro w2 hw2; (first | (replace hv := hv.set 0 rfl hw2) | (replace hv := hv.set 1 rfl hw2) | (replace hv := hv.set 2 rfl hw2)); clear hw2; simp only [List.set] at hv))
    refine ret_cell3 Tryz.results11 rfl (read_row _ _ 28 _ (hv.vars.row (by first | exact .head _ | exact .tail _ (.head _) | exact .tail _ (.tail _ (.head _)))) 7 _ Tryz.underlying28 rfl infoT (by decide) rfl) rfl rfl rfl ⟨rfl, hv.below⟩
set_option maxRecDepth 100000 in
set_option maxHeartbeats 4000000 in
theorem Pop_yes (st pc sk er : Int) (wk : Nat) (sv cv : Value) (S : List Nat) (k : Nat) (w : World) (hcv : IsSlice cv) (hrd : Rd w 1 sv (cellsU S)) (hS : S.length ≤ 1000) (hk : k ≤ S.length) :
    Calls Tryz.prog 11 #[.agg #[.int .i64 st, .int .i64 pc, sv, cv, .int .u64 (wk : Nat), .int .i64 sk, .int .i64 er], .int .i64 (k : Nat)] w fun e w' => ∃ sv' wv, e = .returned (.tuple #[.agg #[.int .i64 st, .int .i64 pc, sv', cv, .int .u64 (wk : Nat), .int .i64 sk, .int .i64 er], wv, .bool true]) ∧ FR w w' 1 sv' (cellsU (S.take (S.length - k))) ∧ FR w w' 1 wv (cellsU (S.drop (S.length - k))) ∧ New w w' := by
  obtain ⟨ca, cn, cc, rfl⟩ := hcv
  obtain ⟨d, hd⟩ : ∃ y, y = S.length - k := ⟨_, rfl⟩
  have hl : (cellsU (S.drop d)).length ≤ 1000 := by rw [cellsU_len, List.length_drop]; omega
  have hl2 : (cellsU (S.take d)).length ≤ 1000 := by rw [cellsU_len, List.length_take]; omega
  rw [← hd]
  obtain ⟨ao, n, cap, rfl, g1, g2, g3, g4, g5⟩ := id hrd
  rw [cellsU_len, Nat.mul_one] at g1
  have hn : n ≤ 1000 := by omega
  have hkn : d ≤ n := by omega
  have hdk : (n : Int) - (k : Int) = (d : Int) := by omega
  have q1 : IntKind.i64.wrap ((n : Int) - (k : Int)) = (d : Int) := by rw [hdk]; exact IntWalk.i64_in _ (by omega)
  have q0 : ¬ (k : Int) < 0 := by omega
  have q2 : ¬ (d : Int) < 0 := by omega
  have q3 : (0 : Int) ≤ (d : Int) := by omega
  have q4 : (d : Int) ≤ (n : Int) := by omega
  have q5 : (d : Int) ≤ (cap : Int) := by omega
  have hcap : cap ≤ 9223372036854775807 := by unfold maxLen at g3; omega
  have HLA := Lib.hid hl; have HLB := Lib.hid hl2; have HM := Lib.hid g3
  clear hl hl2 g3 hdk
  by_cases hS0 : S = []
  · subst hS0
    have e1 : cellsU (([] : List Nat).drop d) = [] := by simp [cellsU]
    have e2 : cellsU (([] : List Nat).take d) = [] := by simp [cellsU]
    have hn0 : n = 0 := by simpa using g1.symm
    have hd0 : d = 0 := by omega
    have hk0 : k = 0 := by simpa using hk
    subst hn0 hd0 hk0
    rw [e1, e2]
    have hv := Mem.nil w
    have kA : ∀ v w', Rd w' 1 v [] → Calls Tryz.prog 22 #[v] w' fun e w2 => ∃ v', e = .returned v' ∧ FR w' w2 1 v' [] ∧ New w' w2 := fun v w' h => CloneU_any v [] w' h (fun _ h => (List.not_mem_nil h).elim) (by simp)
    cases ao with
    | none =>
      obtain ⟨_, rfl⟩ := g4 rfl
      clear g1 g2 g4 g5 hS hk hd e1 e2 hrd
      go_enter Tryz.func11, Tryz.ntmps11
      go_wp2_with (first
        | ((with_reducible refine at_box (T := 28) (dst := some 2) ?_); refine wl_newb rfl #[.int .i64 st, .int .i64 pc, _, (.slice ca cn cc), .int .u64 (wk : Nat), .int .i64 sk, .int .i64 er] 28 (fun _ => rfl) ?_; intro b2 w2 hm2; replace hv := hv.madeAt hm2; clear hm2)
        | ((with_reducible refine at_alloc (T := 28) (dst := some 4) ?_); refine wl_newb rfl #[.int .i64 0, .int .i64 0, .slice none 0 0, .slice none 0 0, .int .u64 0, .int .i64 0, .int .i64 0] 28 (fun _ => rfl) ?_; intro b4 w2 hm2; replace hv := hv.madeAt hm2; clear hm2)
        | ((with_reducible refine at_load (T := 23) ?_); refine wl_ldc rfl _ _ rfl _ (hv.vars.row (by first | exact .head _ | exact .tail _ (.head _) | exact .tail _ (.tail _ (.head _)) | exact .tail _ (.tail _ (.tail _ (.head _))) | exact .tail _ (.tail _ (.tail _ (.tail _ (.head _)))) | exact .tail _ (.tail _ (.tail _ (.tail _ (.tail _ (.head _))))) | exact .tail _ (.tail _ (.tail _ (.tail _ (.tail _ (.tail _ (.head _)))))) | exact .tail _ (.tail _ (.tail _ (.tail _ (.tail _ (.tail _ (.tail _ (.head _))))))))) _ Tryz.underlying23 rfl _ rfl ?_)
        | ((with_reducible refine at_load (T := 28) ?_); refine wl_ldv rfl _ rfl _ (hv.vars.row (by first | exact .head _ | exact .tail _ (.head _) | exact .tail _ (.tail _ (.head _)) | exact .tail _ (.tail _ (.tail _ (.head _))) | exact .tail _ (.tail _ (.tail _ (.tail _ (.head _)))) | exact .tail _ (.tail _ (.tail _ (.tail _ (.tail _ (.head _))))) | exact .tail _ (.tail _ (.tail _ (.tail _ (.tail _ (.tail _ (.head _)))))) | exact .tail _ (.tail _ (.tail _ (.tail _ (.tail _ (.tail _ (.tail _ (.head _))))))))) 7 _ Tryz.underlying28 rfl infoT (by decide) rfl ?_)
        | ((with_reducible refine at_store (T := 23) ?_); refine wl_stc rfl _ _ rfl (.slice aoA nA capA) rfl _ (hv.vars.row (by first | exact .head _ | exact .tail _ (.head _) | exact .tail _ (.tail _ (.head _)) | exact .tail _ (.tail _ (.tail _ (.head _))) | exact .tail _ (.tail _ (.tail _ (.tail _ (.head _)))) | exact .tail _ (.tail _ (.tail _ (.tail _ (.tail _ (.head _))))) | exact .tail _ (.tail _ (.tail _ (.tail _ (.tail _ (.tail _ (.head _)))))) | exact .tail _ (.tail _ (.tail _ (.tail _ (.tail _ (.tail _ (.tail _ (.head _))))))))) (hv.vars.sft (by first | exact .head _ | exact .tail _ (.head _) | exact .tail _ (.tail _ (.head _)) | exact .tail _ (.tail _ (.tail _ (.head _))) | exact .tail _ (.tail _ (.tail _ (.tail _ (.head _)))) | exact .tail _ (.tail _ (.tail _ (.tail _ (.tail _ (.head _))))) | exact .tail _ (.tail _ (.tail _ (.tail _ (.tail _ (.tail _ (.head _)))))) | exact .tail _ (.tail _ (.tail _ (.tail _ (.tail _ (.tail _ (.tail _ (.head _))))))))) (by kernel_rfl) rfl (by simp) ?_; intro w2 hw2; (first | (replace hv := hv.set 0 rfl hw2) | (replace hv := hv.set 1 rfl hw2) | (replace hv := hv.set 2 rfl hw2)); clear hw2; simp only [List.set] at hv; simp only [List.setIfInBounds_toArray, List.set_cons_succ, List.set_cons_zero] at hv)
        | ((with_reducible refine at_store (T := 28) ?_); refine wl_stv rfl _ rfl _ rfl _ (hv.vars.row (by first | exact .head _ | exact .tail _ (.head _) | exact .tail _ (.tail _ (.head _)) | exact .tail _ (.tail _ (.tail _ (.head _))) | exact .tail _ (.tail _ (.tail _ (.tail _ (.head _)))) | exact .tail _ (.tail _ (.tail _ (.tail _ (.tail _ (.head _))))) | exact .tail _ (.tail _ (.tail _ (.tail _ (.tail _ (.tail _ (.head _)))))) | exact .tail _ (.tail _ (.tail _ (.tail _ (.tail _ (.tail _ (.tail _ (.head _))))))))) (hv.vars.sft (by first | exact .head _ | exact .tail _ (.head _) | exact .tail _ (.tail _ (.head _)) | exact .tail _ (.tail _ (.tail _ (.head _))) | exact .tail _ (.tail _ (.tail _ (.tail _ (.head _)))) | exact .tail _ (.tail _ (.tail _ (.tail _ (.tail _ (.head _))))) | exact .tail _ (.tail _ (.tail _ (.tail _ (.tail _ (.tail _ (.head _)))))) | exact .tail _ (.tail _ (.tail _ (.tail _ (.tail _ (.tail _ (.tail _ (.head _))))))))) 7 infoT rfl rfl (by simp [Value.oneCell']) ?_; intro w2 hw2; (first | (replace hv := hv.set 0 rfl hw2) | (replace hv := hv.set 1 rfl hw2) | (replace hv := hv.set 2 rfl hw2)); clear hw2; simp only [List.set] at hv)
        | (go_at_call 22; (with_reducible refine (kA _ _ (by first | exact Rd.nil _ _ | exact Rd.es _ _ _ HM.out | exact Rd.es _ _ _ (Nat.zero_le _))).mono ?_); rintro e w1 ⟨v1, rfl, hf1, hn1⟩; obtain ⟨aoA, nA, capA, rfl, _⟩ := id hf1.1; replace hv := hv.fresh hn1 hf1; clear hn1 hf1))
      refine ret_cell3 Tryz.results11 rfl (read_row _ _ 28 _ (hv.vars.row (by first | exact .head _ | exact .tail _ (.head _) | exact .tail _ (.tail _ (.head _)))) 7 _ Tryz.underlying28 rfl infoT (by decide) rfl) rfl rfl rfl ⟨_, _, rfl, ⟨hv.rd (by first | exact Mem.z | exact Mem.s (Mem.z) | exact Mem.s (Mem.s (Mem.z)) | exact Mem.s (Mem.s (Mem.s (Mem.z))) | exact Mem.s (Mem.s (Mem.s (Mem.s (Mem.z)))) | exact Mem.s (Mem.s (Mem.s (Mem.s (Mem.s (Mem.z))))) | exact Mem.s (Mem.s (Mem.s (Mem.s (Mem.s (Mem.s (Mem.z)))))) | exact Mem.s (Mem.s (Mem.s (Mem.s (Mem.s (Mem.s (Mem.s (Mem.z))))))) | exact Mem.s (Mem.s (Mem.s (Mem.s (Mem.s (Mem.s (Mem.s (Mem.s (Mem.z))))))))), fun h => (h rfl).elim⟩, ⟨hv.rd (by first | exact Mem.z | exact Mem.s (Mem.z) | exact Mem.s (Mem.s (Mem.z)) | exact Mem.s (Mem.s (Mem.s (Mem.z))) | exact Mem.s (Mem.s (Mem.s (Mem.s (Mem.z)))) | exact Mem.s (Mem.s (Mem.s (Mem.s (Mem.s (Mem.z))))) | exact Mem.s (Mem.s (Mem.s (Mem.s (Mem.s (Mem.s (Mem.z)))))) | exact Mem.s (Mem.s (Mem.s (Mem.s (Mem.s (Mem.s (Mem.s (Mem.z))))))) | exact Mem.s (Mem.s (Mem.s (Mem.s (Mem.s (Mem.s (Mem.s (Mem.s (Mem.z))))))))), fun h => (h rfl).elim⟩, hv.below⟩
    | some a =>
      clear g1 g4 g5 hS hk hd e1 e2 hrd
      go_enter Tryz.func11, Tryz.ntmps11
      go_wp2_with (first
        | ((with_reducible refine at_box (T := 28) (dst := some 2) ?_); refine wl_newb rfl #[.int .i64 st, .int .i64 pc, _, (.slice ca cn cc), .int .u64 (wk : Nat), .int .i64 sk, .int .i64 er] 28 (fun _ => rfl) ?_; intro b2 w2 hm2; replace hv := hv.madeAt hm2; clear hm2)
        | ((with_reducible refine at_alloc (T := 28) (dst := some 4) ?_); refine wl_newb rfl #[.int .i64 0, .int .i64 0, .slice none 0 0, .slice none 0 0, .int .u64 0, .int .i64 0, .int .i64 0] 28 (fun _ => rfl) ?_; intro b4 w2 hm2; replace hv := hv.madeAt hm2; clear hm2)
        | ((with_reducible refine at_load (T := 23) ?_); refine wl_ldc rfl _ _ rfl _ (hv.vars.row (by first | exact .head _ | exact .tail _ (.head _) | exact .tail _ (.tail _ (.head _)) | exact .tail _ (.tail _ (.tail _ (.head _))) | exact .tail _ (.tail _ (.tail _ (.tail _ (.head _)))) | exact .tail _ (.tail _ (.tail _ (.tail _ (.tail _ (.head _))))) | exact .tail _ (.tail _ (.tail _ (.tail _ (.tail _ (.tail _ (.head _)))))) | exact .tail _ (.tail _ (.tail _ (.tail _ (.tail _ (.tail _ (.tail _ (.head _))))))))) _ Tryz.underlying23 rfl _ rfl ?_)
        | ((with_reducible refine at_load (T := 28) ?_); refine wl_ldv rfl _ rfl _ (hv.vars.row (by first | exact .head _ | exact .tail _ (.head _) | exact .tail _ (.tail _ (.head _)) | exact .tail _ (.tail _ (.tail _ (.head _))) | exact .tail _ (.tail _ (.tail _ (.tail _ (.head _)))) | exact .tail _ (.tail _ (.tail _ (.tail _ (.tail _ (.head _))))) | exact .tail _ (.tail _ (.tail _ (.tail _ (.tail _ (.tail _ (.head _)))))) | exact .tail _ (.tail _ (.tail _ (.tail _ (.tail _ (.tail _ (.tail _ (.head _))))))))) 7 _ Tryz.underlying28 rfl infoT (by decide) rfl ?_)
        | ((with_reducible refine at_store (T := 23) ?_); refine wl_stc rfl _ _ rfl (.slice aoA nA capA) rfl _ (hv.vars.row (by first | exact .head _ | exact .tail _ (.head _) | exact .tail _ (.tail _ (.head _)) | exact .tail _ (.tail _ (.tail _ (.head _))) | exact .tail _ (.tail _ (.tail _ (.tail _ (.head _)))) | exact .tail _ (.tail _ (.tail _ (.tail _ (.tail _ (.head _))))) | exact .tail _ (.tail _ (.tail _ (.tail _ (.tail _ (.tail _ (.head _)))))) | exact .tail _ (.tail _ (.tail _ (.tail _ (.tail _ (.tail _ (.tail _ (.head _))))))))) (hv.vars.sft (by first | exact .head _ | exact .tail _ (.head _) | exact .tail _ (.tail _ (.head _)) | exact .tail _ (.tail _ (.tail _ (.head _))) | exact .tail _ (.tail _ (.tail _ (.tail _ (.head _)))) | exact .tail _ (.tail _ (.tail _ (.tail _ (.tail _ (.head _))))) | exact .tail _ (.tail _ (.tail _ (.tail _ (.tail _ (.tail _ (.head _)))))) | exact .tail _ (.tail _ (.tail _ (.tail _ (.tail _ (.tail _ (.tail _ (.head _))))))))) (by kernel_rfl) rfl (by simp) ?_; intro w2 hw2; (first | (replace hv := hv.set 0 rfl hw2) | (replace hv := hv.set 1 rfl hw2) | (replace hv := hv.set 2 rfl hw2)); clear hw2; simp only [List.set] at hv; simp only [List.setIfInBounds_toArray, List.set_cons_succ, List.set_cons_zero] at hv)
        | ((with_reducible refine at_store (T := 28) ?_); refine wl_stv rfl _ rfl _ rfl _ (hv.vars.row (by first | exact .head _ | exact .tail _ (.head _) | exact .tail _ (.tail _ (.head _)) | exact .tail _ (.tail _ (.tail _ (.head _))) | exact .tail _ (.tail _ (.tail _ (.tail _ (.head _)))) | exact .tail _ (.tail _ (.tail _ (.tail _ (.tail _ (.head _))))) | exact .tail _ (.tail _ (.tail _ (.tail _ (.tail _ (.tail _ (.head _)))))) | exact .tail _ (.tail _ (.tail _ (.tail _ (.tail _ (.tail _ (.tail _ (.head _))))))))) (hv.vars.sft (by first | exact .head _ | exact .tail _ (.head _) | exact .tail _ (.tail _ (.head _)) | exact .tail _ (.tail _ (.tail _ (.head _))) | exact .tail _ (.tail _ (.tail _ (.tail _ (.head _)))) | exact .tail _ (.tail _ (.tail _ (.tail _ (.tail _ (.head _))))) | exact .tail _ (.tail _ (.tail _ (.tail _ (.tail _ (.tail _ (.head _)))))) | exact .tail _ (.tail _ (.tail _ (.tail _ (.tail _ (.tail _ (.tail _ (.head _))))))))) 7 infoT rfl rfl (by simp [Value.oneCell']) ?_; intro w2 hw2; (first | (replace hv := hv.set 0 rfl hw2) | (replace hv := hv.set 1 rfl hw2) | (replace hv := hv.set 2 rfl hw2)); clear hw2; simp only [List.set] at hv)
        | (go_at_call 22; (with_reducible refine (kA _ _ (by first | exact Rd.nil _ _ | exact Rd.es _ _ _ HM.out | exact Rd.es _ _ _ (Nat.zero_le _))).mono ?_); rintro e w1 ⟨v1, rfl, hf1, hn1⟩; obtain ⟨aoA, nA, capA, rfl, _⟩ := id hf1.1; replace hv := hv.fresh hn1 hf1; clear hn1 hf1))
      refine ret_cell3 Tryz.results11 rfl (read_row _ _ 28 _ (hv.vars.row (by first | exact .head _ | exact .tail _ (.head _) | exact .tail _ (.tail _ (.head _)))) 7 _ Tryz.underlying28 rfl infoT (by decide) rfl) rfl rfl rfl ⟨_, _, rfl, ⟨hv.rd (by first | exact Mem.z | exact Mem.s (Mem.z) | exact Mem.s (Mem.s (Mem.z)) | exact Mem.s (Mem.s (Mem.s (Mem.z))) | exact Mem.s (Mem.s (Mem.s (Mem.s (Mem.z)))) | exact Mem.s (Mem.s (Mem.s (Mem.s (Mem.s (Mem.z))))) | exact Mem.s (Mem.s (Mem.s (Mem.s (Mem.s (Mem.s (Mem.z)))))) | exact Mem.s (Mem.s (Mem.s (Mem.s (Mem.s (Mem.s (Mem.s (Mem.z))))))) | exact Mem.s (Mem.s (Mem.s (Mem.s (Mem.s (Mem.s (Mem.s (Mem.s (Mem.z))))))))), fun h => (h rfl).elim⟩, ⟨hv.rd (by first | exact Mem.z | exact Mem.s (Mem.z) | exact Mem.s (Mem.s (Mem.z)) | exact Mem.s (Mem.s (Mem.s (Mem.z))) | exact Mem.s (Mem.s (Mem.s (Mem.s (Mem.z)))) | exact Mem.s (Mem.s (Mem.s (Mem.s (Mem.s (Mem.z))))) | exact Mem.s (Mem.s (Mem.s (Mem.s (Mem.s (Mem.s (Mem.z)))))) | exact Mem.s (Mem.s (Mem.s (Mem.s (Mem.s (Mem.s (Mem.s (Mem.z))))))) | exact Mem.s (Mem.s (Mem.s (Mem.s (Mem.s (Mem.s (Mem.s (Mem.s (Mem.z))))))))), fun h => (h rfl).elim⟩, hv.below⟩
  · obtain ⟨b, o, e', _, _⟩ := g5 0 (by rw [cellsU_len]; exact List.length_pos_iff.2 hS0)
    subst e'
    have hB : Rd w 1 (.slice (some ⟨b, o, none⟩) d d) (cellsU (S.take d)) := by
      have := hrd.part (lo := 0) (hi := d) (by omega) (by omega) (cp := d) (by omega) (by omega)
      rw [cellsU_take]
      simpa using this
    have kB : ∀ w', Rd w' 1 (.slice (some ⟨b, o, none⟩) d d) (cellsU (S.take d)) → Calls Tryz.prog 22 #[.slice (some ⟨b, o, none⟩) d d] w' fun e w2 => ∃ v', e = .returned v' ∧ FR w' w2 1 v' (cellsU (S.take d)) ∧ New w' w2 := fun w' h => CloneU_any _ _ w' h (cellsU_one _) HLB.out
    by_cases hc : cap = d
    · subst hc
      have e0 : S.drop cap = [] := List.drop_eq_nil_of_le (by omega)
      rw [e0]
      have hA : Rd w 1 (.slice (some ⟨b, o, none⟩) (n - cap) 0) (cellsU []) := ⟨some ⟨b, o, none⟩, n - cap, 0, rfl, by simp [cellsU]; omega, by omega, by unfold maxLen; omega, fun h => (by cases h), fun i hi => by simp [cellsU] at hi⟩
      have kA : ∀ v w', Rd w' 1 v (cellsU []) → Calls Tryz.prog 22 #[v] w' fun e w2 => ∃ v', e = .returned v' ∧ FR w' w2 1 v' (cellsU []) ∧ New w' w2 := fun v w' h => CloneU_any v _ w' h (cellsU_one _) (by simp [cellsU])
      have hv := ((Mem.nil w).old hA).old hB
      clear hA hB g1 g2 g4 g5 hS hk hd hrd hS0
      go_enter Tryz.func11, Tryz.ntmps11
      go_wp2_with (first
        | ((with_reducible refine at_box (T := 28) (dst := some 2) ?_); refine wl_newb rfl #[.int .i64 st, .int .i64 pc, _, (.slice ca cn cc), .int .u64 (wk : Nat), .int .i64 sk, .int .i64 er] 28 (fun _ => rfl) ?_; intro b2 w2 hm2; replace hv := hv.madeAt hm2; clear hm2)
        | ((with_reducible refine at_alloc (T := 28) (dst := some 4) ?_); refine wl_newb rfl #[.int .i64 0, .int .i64 0, .slice none 0 0, .slice none 0 0, .int .u64 0, .int .i64 0, .int .i64 0] 28 (fun _ => rfl) ?_; intro b4 w2 hm2; replace hv := hv.madeAt hm2; clear hm2)
        | ((with_reducible refine at_load (T := 23) ?_); refine wl_ldc rfl _ _ rfl _ (hv.vars.row (by first | exact .head _ | exact .tail _ (.head _) | exact .tail _ (.tail _ (.head _)) | exact .tail _ (.tail _ (.tail _ (.head _))) | exact .tail _ (.tail _ (.tail _ (.tail _ (.head _)))) | exact .tail _ (.tail _ (.tail _ (.tail _ (.tail _ (.head _))))) | exact .tail _ (.tail _ (.tail _ (.tail _ (.tail _ (.tail _ (.head _)))))) | exact .tail _ (.tail _ (.tail _ (.tail _ (.tail _ (.tail _ (.tail _ (.head _))))))))) _ Tryz.underlying23 rfl _ rfl ?_)
        | ((with_reducible refine at_load (T := 28) ?_); refine wl_ldv rfl _ rfl _ (hv.vars.row (by first | exact .head _ | exact .tail _ (.head _) | exact .tail _ (.tail _ (.head _)) | exact .tail _ (.tail _ (.tail _ (.head _))) | exact .tail _ (.tail _ (.tail _ (.tail _ (.head _)))) | exact .tail _ (.tail _ (.tail _ (.tail _ (.tail _ (.head _))))) | exact .tail _ (.tail _ (.tail _ (.tail _ (.tail _ (.tail _ (.head _)))))) | exact .tail _ (.tail _ (.tail _ (.tail _ (.tail _ (.tail _ (.tail _ (.head _))))))))) 7 _ Tryz.underlying28 rfl infoT (by decide) rfl ?_)
        | ((with_reducible refine at_store (T := 23) ?_); refine wl_stc rfl _ _ rfl (.slice aoB nB capB) rfl _ (hv.vars.row (by first | exact .head _ | exact .tail _ (.head _) | exact .tail _ (.tail _ (.head _)) | exact .tail _ (.tail _ (.tail _ (.head _))) | exact .tail _ (.tail _ (.tail _ (.tail _ (.head _)))) | exact .tail _ (.tail _ (.tail _ (.tail _ (.tail _ (.head _))))) | exact .tail _ (.tail _ (.tail _ (.tail _ (.tail _ (.tail _ (.head _)))))) | exact .tail _ (.tail _ (.tail _ (.tail _ (.tail _ (.tail _ (.tail _ (.head _))))))))) (hv.vars.sft (by first | exact .head _ | exact .tail _ (.head _) | exact .tail _ (.tail _ (.head _)) | exact .tail _ (.tail _ (.tail _ (.head _))) | exact .tail _ (.tail _ (.tail _ (.tail _ (.head _)))) | exact .tail _ (.tail _ (.tail _ (.tail _ (.tail _ (.head _))))) | exact .tail _ (.tail _ (.tail _ (.tail _ (.tail _ (.tail _ (.head _)))))) | exact .tail _ (.tail _ (.tail _ (.tail _ (.tail _ (.tail _ (.tail _ (.head _))))))))) (by kernel_rfl) rfl (by simp) ?_; intro w2 hw2; (first | (replace hv := hv.set 0 rfl hw2) | (replace hv := hv.set 1 rfl hw2) | (replace hv := hv.set 2 rfl hw2)); clear hw2; simp only [List.set] at hv; simp only [List.setIfInBounds_toArray, List.set_cons_succ, List.set_cons_zero] at hv)
        | ((with_reducible refine at_store (T := 28) ?_); refine wl_stv rfl _ rfl _ rfl _ (hv.vars.row (by first | exact .head _ | exact .tail _ (.head _) | exact .tail _ (.tail _ (.head _)) | exact .tail _ (.tail _ (.tail _ (.head _))) | exact .tail _ (.tail _ (.tail _ (.tail _ (.head _)))) | exact .tail _ (.tail _ (.tail _ (.tail _ (.tail _ (.head _))))) | exact .tail _ (.tail _ (.tail _ (.tail _ (.tail _ (.tail _ (.head _)))))) | exact .tail _ (.tail _ (.tail _ (.tail _ (.tail _ (.tail _ (.tail _ (.head _))))))))) (hv.vars.sft (by first | exact .head _ | exact .tail _ (.head _) | exact .tail _ (.tail _ (.head _)) | exact .tail _ (.tail _ (.tail _ (.head _))) | exact .tail _ (.tail _ (.tail _ (.tail _ (.head _)))) | exact .tail _ (.tail _ (.tail _ (.tail _ (.tail _ (.head _))))) | exact .tail _ (.tail _ (.tail _ (.tail _ (.tail _ (.tail _ (.head _)))))) | exact .tail _ (.tail _ (.tail _ (.tail _ (.tail _ (.tail _ (.tail _ (.head _))))))))) 7 infoT rfl rfl (by simp [Value.oneCell']) ?_; intro w2 hw2; (first | (replace hv := hv.set 0 rfl hw2) | (replace hv := hv.set 1 rfl hw2) | (replace hv := hv.set 2 rfl hw2)); clear hw2; simp only [List.set] at hv)
        | (go_at_call 22; (with_reducible refine (kA _ _ (hv.rd (by first | exact Mem.z | exact Mem.s (Mem.z) | exact Mem.s (Mem.s (Mem.z)) | exact Mem.s (Mem.s (Mem.s (Mem.z))) | exact Mem.s (Mem.s (Mem.s (Mem.s (Mem.z)))) | exact Mem.s (Mem.s (Mem.s (Mem.s (Mem.s (Mem.z))))) | exact Mem.s (Mem.s (Mem.s (Mem.s (Mem.s (Mem.s (Mem.z)))))) | exact Mem.s (Mem.s (Mem.s (Mem.s (Mem.s (Mem.s (Mem.s (Mem.z))))))) | exact Mem.s (Mem.s (Mem.s (Mem.s (Mem.s (Mem.s (Mem.s (Mem.s (Mem.z))))))))))).mono ?_); rintro e w1 ⟨v1, rfl, hf1, hn1⟩; obtain ⟨aoA, nA, capA, rfl, _⟩ := id hf1.1; have hwA := Lib.hid (FR.since (w := w) hf1 hv.below.size).2; replace hv := hv.fresh hn1 hf1; clear hn1 hf1)
        | (go_at_call 22; (with_reducible refine (kB _ (hv.rd (by first | exact Mem.z | exact Mem.s (Mem.z) | exact Mem.s (Mem.s (Mem.z)) | exact Mem.s (Mem.s (Mem.s (Mem.z))) | exact Mem.s (Mem.s (Mem.s (Mem.s (Mem.z)))) | exact Mem.s (Mem.s (Mem.s (Mem.s (Mem.s (Mem.z))))) | exact Mem.s (Mem.s (Mem.s (Mem.s (Mem.s (Mem.s (Mem.z)))))) | exact Mem.s (Mem.s (Mem.s (Mem.s (Mem.s (Mem.s (Mem.s (Mem.z))))))) | exact Mem.s (Mem.s (Mem.s (Mem.s (Mem.s (Mem.s (Mem.s (Mem.s (Mem.z))))))))))).mono ?_); rintro e w1 ⟨v1, rfl, hf1, hn1⟩; obtain ⟨aoB, nB, capB, rfl, _⟩ := id hf1.1; have hwB := Lib.hid (FR.since (w := w) hf1 hv.below.size).2; replace hv := hv.fresh hn1 hf1; clear hn1 hf1))
      refine ret_cell3 Tryz.results11 rfl (read_row _ _ 28 _ (hv.vars.row (by first | exact .head _ | exact .tail _ (.head _) | exact .tail _ (.tail _ (.head _)))) 7 _ Tryz.underlying28 rfl infoT (by decide) rfl) rfl rfl rfl ⟨_, _, rfl, ⟨hv.rd (by first | exact Mem.z | exact Mem.s (Mem.z) | exact Mem.s (Mem.s (Mem.z)) | exact Mem.s (Mem.s (Mem.s (Mem.z))) | exact Mem.s (Mem.s (Mem.s (Mem.s (Mem.z)))) | exact Mem.s (Mem.s (Mem.s (Mem.s (Mem.s (Mem.z))))) | exact Mem.s (Mem.s (Mem.s (Mem.s (Mem.s (Mem.s (Mem.z)))))) | exact Mem.s (Mem.s (Mem.s (Mem.s (Mem.s (Mem.s (Mem.s (Mem.z))))))) | exact Mem.s (Mem.s (Mem.s (Mem.s (Mem.s (Mem.s (Mem.s (Mem.s (Mem.z))))))))), hwB.out⟩, ⟨hv.rd (by first | exact Mem.z | exact Mem.s (Mem.z) | exact Mem.s (Mem.s (Mem.z)) | exact Mem.s (Mem.s (Mem.s (Mem.z))) | exact Mem.s (Mem.s (Mem.s (Mem.s (Mem.z)))) | exact Mem.s (Mem.s (Mem.s (Mem.s (Mem.s (Mem.z))))) | exact Mem.s (Mem.s (Mem.s (Mem.s (Mem.s (Mem.s (Mem.z)))))) | exact Mem.s (Mem.s (Mem.s (Mem.s (Mem.s (Mem.s (Mem.s (Mem.z))))))) | exact Mem.s (Mem.s (Mem.s (Mem.s (Mem.s (Mem.s (Mem.s (Mem.s (Mem.z))))))))), hwA.out⟩, hv.below⟩
    · have hA : Rd w 1 (.slice (some ⟨b, o + d, none⟩) (n - d) (cap - d)) (cellsU (S.drop d)) := by
        have := hrd.part (lo := d) (hi := n) (by omega) (by omega) (cp := cap - d) (by omega) (by omega)
        rw [cellsU_drop]
        rwa [List.take_of_length_le (by rw [List.length_drop, cellsU_len]; omega)] at this
      have kA : ∀ v w', Rd w' 1 v (cellsU (S.drop d)) → Calls Tryz.prog 22 #[v] w' fun e w2 => ∃ v', e = .returned v' ∧ FR w' w2 1 v' (cellsU (S.drop d)) ∧ New w' w2 := fun v w' h => CloneU_any v _ w' h (cellsU_one _) HLA.out
      have hv := ((Mem.nil w).old hA).old hB
      have q6 : ¬ cap = d := hc
      clear hA hB g1 g2 g4 g5 hS hk hd hrd hS0 hc
      go_enter Tryz.func11, Tryz.ntmps11
      go_wp2_with (first
        | ((with_reducible refine at_box (T := 28) (dst := some 2) ?_); refine wl_newb rfl #[.int .i64 st, .int .i64 pc, _, (.slice ca cn cc), .int .u64 (wk : Nat), .int .i64 sk, .int .i64 er] 28 (fun _ => rfl) ?_; intro b2 w2 hm2; replace hv := hv.madeAt hm2; clear hm2)
        | ((with_reducible refine at_alloc (T := 28) (dst := some 4) ?_); refine wl_newb rfl #[.int .i64 0, .int .i64 0, .slice none 0 0, .slice none 0 0, .int .u64 0, .int .i64 0, .int .i64 0] 28 (fun _ => rfl) ?_; intro b4 w2 hm2; replace hv := hv.madeAt hm2; clear hm2)
        | ((with_reducible refine at_load (T := 23) ?_); refine wl_ldc rfl _ _ rfl _ (hv.vars.row (by first | exact .head _ | exact .tail _ (.head _) | exact .tail _ (.tail _ (.head _)) | exact .tail _ (.tail _ (.tail _ (.head _))) | exact .tail _ (.tail _ (.tail _ (.tail _ (.head _)))) | exact .tail _ (.tail _ (.tail _ (.tail _ (.tail _ (.head _))))) | exact .tail _ (.tail _ (.tail _ (.tail _ (.tail _ (.tail _ (.head _)))))) | exact .tail _ (.tail _ (.tail _ (.tail _ (.tail _ (.tail _ (.tail _ (.head _))))))))) _ Tryz.underlying23 rfl _ rfl ?_)
        | ((with_reducible refine at_load (T := 28) ?_); refine wl_ldv rfl _ rfl _ (hv.vars.row (by first | exact .head _ | exact .tail _ (.head _) | exact .tail _ (.tail _ (.head _)) | exact .tail _ (.tail _ (.tail _ (.head _))) | exact .tail _ (.tail _ (.tail _ (.tail _ (.head _)))) | exact .tail _ (.tail _ (.tail _ (.tail _ (.tail _ (.head _))))) | exact .tail _ (.tail _ (.tail _ (.tail _ (.tail _ (.tail _ (.head _)))))) | exact .tail _ (.tail _ (.tail _ (.tail _ (.tail _ (.tail _ (.tail _ (.head _))))))))) 7 _ Tryz.underlying28 rfl infoT (by decide) rfl ?_)
        | ((with_reducible refine at_store (T := 23) ?_); refine wl_stc rfl _ _ rfl (.slice aoB nB capB) rfl _ (hv.vars.row (by first | exact .head _ | exact .tail _ (.head _) | exact .tail _ (.tail _ (.head _)) | exact .tail _ (.tail _ (.tail _ (.head _))) | exact .tail _ (.tail _ (.tail _ (.tail _ (.head _)))) | exact .tail _ (.tail _ (.tail _ (.tail _ (.tail _ (.head _))))) | exact .tail _ (.tail _ (.tail _ (.tail _ (.tail _ (.tail _ (.head _)))))) | exact .tail _ (.tail _ (.tail _ (.tail _ (.tail _ (.tail _ (.tail _ (.head _))))))))) (hv.vars.sft (by first | exact .head _ | exact .tail _ (.head _) | exact .tail _ (.tail _ (.head _)) | exact .tail _ (.tail _ (.tail _ (.head _))) | exact .tail _ (.tail _ (.tail _ (.tail _ (.head _)))) | exact .tail _ (.tail _ (.tail _ (.tail _ (.tail _ (.head _))))) | exact .tail _ (.tail _ (.tail _ (.tail _ (.tail _ (.tail _ (.head _)))))) | exact .tail _ (.tail _ (.tail _ (.tail _ (.tail _ (.tail _ (.tail _ (.head _))))))))) (by kernel_rfl) rfl (by simp) ?_; intro w2 hw2; (first | (replace hv := hv.set 0 rfl hw2) | (replace hv := hv.set 1 rfl hw2) | (replace hv := hv.set 2 rfl hw2)); clear hw2; simp only [List.set] at hv; simp only [List.setIfInBounds_toArray, List.set_cons_succ, List.set_cons_zero] at hv)
        | ((with_reducible refine at_store (T := 28) ?_); refine wl_stv rfl _ rfl _ rfl _ (hv.vars.row (by first | exact .head _ | exact .tail _ (.head _) | exact .tail _ (.tail _ (.head _)) | exact .tail _ (.tail _ (.tail _ (.head _))) | exact .tail _ (.tail _ (.tail _ (.tail _ (.head _)))) | exact .tail _ (.tail _ (.tail _ (.tail _ (.tail _ (.head _))))) | exact .tail _ (.tail _ (.tail _ (.tail _ (.tail _ (.tail _ (.head _)))))) | exact .tail _ (.tail _ (.tail _ (.tail _ (.tail _ (.tail _ (.tail _ (.head _))))))))) (hv.vars.sft (by first | exact .head _ | exact .tail _ (.head _) | exact .tail _ (.tail _ (.head _)) | exact .tail _ (.tail _ (.tail _ (.head _))) | exact .tail _ (.tail _ (.tail _ (.tail _ (.head _)))) | exact .tail _ (.tail _ (.tail _ (.tail _ (.tail _ (.head _))))) | exact .tail _ (.tail _ (.tail _ (.tail _ (.tail _ (.tail _ (.head _)))))) | exact .tail _ (.tail _ (.tail _ (.tail _ (.tail _ (.tail _ (.tail _ (.head _))))))))) 7 infoT rfl rfl (by simp [Value.oneCell']) ?_; intro w2 hw2; (first | (replace hv := hv.set 0 rfl hw2) | (replace hv := hv.set 1 rfl hw2) | (replace hv := hv.set 2 rfl hw2)); clear hw2; simp only [List.set] at hv)
        | (go_at_call 22; (with_reducible refine (kA _ _ (hv.rd (by first | exact Mem.z | exact Mem.s (Mem.z) | exact Mem.s (Mem.s (Mem.z)) | exact Mem.s (Mem.s (Mem.s (Mem.z))) | exact Mem.s (Mem.s (Mem.s (Mem.s (Mem.z)))) | exact Mem.s (Mem.s (Mem.s (Mem.s (Mem.s (Mem.z))))) | exact Mem.s (Mem.s (Mem.s (Mem.s (Mem.s (Mem.s (Mem.z)))))) | exact Mem.s (Mem.s (Mem.s (Mem.s (Mem.s (Mem.s (Mem.s (Mem.z))))))) | exact Mem.s (Mem.s (Mem.s (Mem.s (Mem.s (Mem.s (Mem.s (Mem.s (Mem.z))))))))))).mono ?_); rintro e w1 ⟨v1, rfl, hf1, hn1⟩; obtain ⟨aoA, nA, capA, rfl, _⟩ := id hf1.1; have hwA := Lib.hid (FR.since (w := w) hf1 hv.below.size).2; replace hv := hv.fresh hn1 hf1; clear hn1 hf1)
        | (go_at_call 22; (with_reducible refine (kB _ (hv.rd (by first | exact Mem.z | exact Mem.s (Mem.z) | exact Mem.s (Mem.s (Mem.z)) | exact Mem.s (Mem.s (Mem.s (Mem.z))) | exact Mem.s (Mem.s (Mem.s (Mem.s (Mem.z)))) | exact Mem.s (Mem.s (Mem.s (Mem.s (Mem.s (Mem.z))))) | exact Mem.s (Mem.s (Mem.s (Mem.s (Mem.s (Mem.s (Mem.z)))))) | exact Mem.s (Mem.s (Mem.s (Mem.s (Mem.s (Mem.s (Mem.s (Mem.z))))))) | exact Mem.s (Mem.s (Mem.s (Mem.s (Mem.s (Mem.s (Mem.s (Mem.s (Mem.z))))))))))).mono ?_); rintro e w1 ⟨v1, rfl, hf1, hn1⟩; obtain ⟨aoB, nB, capB, rfl, _⟩ := id hf1.1; have hwB := Lib.hid (FR.since (w := w) hf1 hv.below.size).2; replace hv := hv.fresh hn1 hf1; clear hn1 hf1))
      refine ret_cell3 Tryz.results11 rfl (read_row _ _ 28 _ (hv.vars.row (by first | exact .head _ | exact .tail _ (.head _) | exact .tail _ (.tail _ (.head _)))) 7 _ Tryz.underlying28 rfl infoT (by decide) rfl) rfl rfl rfl ⟨_, _, rfl, ⟨hv.rd (by first | exact Mem.z | exact Mem.s (Mem.z) | exact Mem.s (Mem.s (Mem.z)) | exact Mem.s (Mem.s (Mem.s (Mem.z))) | exact Mem.s (Mem.s (Mem.s (Mem.s (Mem.z)))) | exact Mem.s (Mem.s (Mem.s (Mem.s (Mem.s (Mem.z))))) | exact Mem.s (Mem.s (Mem.s (Mem.s (Mem.s (Mem.s (Mem.z)))))) | exact Mem.s (Mem.s (Mem.s (Mem.s (Mem.s (Mem.s (Mem.s (Mem.z))))))) | exact Mem.s (Mem.s (Mem.s (Mem.s (Mem.s (Mem.s (Mem.s (Mem.s (Mem.z))))))))), hwB.out⟩, ⟨hv.rd (by first | exact Mem.z | exact Mem.s (Mem.z) | exact Mem.s (Mem.s (Mem.z)) | exact Mem.s (Mem.s (Mem.s (Mem.z))) | exact Mem.s (Mem.s (Mem.s (Mem.s (Mem.z)))) | exact Mem.s (Mem.s (Mem.s (Mem.s (Mem.s (Mem.z))))) | exact Mem.s (Mem.s (Mem.s (Mem.s (Mem.s (Mem.s (Mem.z)))))) | exact Mem.s (Mem.s (Mem.s (Mem.s (Mem.s (Mem.s (Mem.s (Mem.z))))))) | exact Mem.s (Mem.s (Mem.s (Mem.s (Mem.s (Mem.s (Mem.s (Mem.s (Mem.z))))))))), hwA.out⟩, hv.below⟩
end Go.Proofs.YthpodinbbmgfoaaGreat
