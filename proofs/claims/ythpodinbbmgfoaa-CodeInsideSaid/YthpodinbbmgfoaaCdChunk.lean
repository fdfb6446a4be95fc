/-
  slices.Chunk over bytes: its iterator's contract.
-/
import Derived.Test.YthpodinbbmgfoaaCdRGet
import Derived.Test.YthpodinbbmgfoaaAnyA
import Derived.RangeFuncNested
import Derived.RangeFuncBound
import Derived.RangeFuncCalls
import Derived.RangeFuncLeaves
import Derived.Shelf.Abstract
import Derived.Shelf.RegionOpen
import Derived.WalkKit
import Derived.OwnWalkIn
import Derived.TacticsInMore
import Derived.LoopNIn
import Derived.LoopIn
set_option linter.unusedVariables false
namespace Go
open Go.RowKit
/-- A turn of a block that holds no cells, beyond what lay. -/
theorem Vars.turn {w0 w w' : World} {L : List (Nat × Array Value)} {row : Option Nat} (h : Vars w0 w L) (hg : w.grownBy w' row) (hr : ∀ r, row = some r → w0.heap.size ≤ r ∧ ∃ o : Obj, w.heap[r]? = some o ∧ o.isCells = false) : Vars w0 w' L := by
  refine ⟨h.below.grown hg h.below.size (fun k e => (hr k e).1), fun p hp => ?_, h.apart⟩
  obtain ⟨h1, h2, h3⟩ := h.rows p hp
  obtain ⟨tt, ht⟩ := soft_heap h2
  have hb : w'.heap[p.1]? = w.heap[p.1]? := hg.block p.1 (soft_lt h2) (fun e => by
    obtain ⟨_, o, ho, hc⟩ := hr p.1 e.symm
    rw [ht] at ho; cases ho; cases hc)
  exact ⟨(rowD_congr hb).trans h1, (soft_congr hb).trans h2, h3⟩
theorem OwnS.turn {w0 w w' : World} {L : List (Nat × Array Value)} {e : TypeId} {k : Nat} {v : Value} {c : List Value} {row : Option Nat} (h : OwnS w0 w L e k v c) (hg : w.grownBy w' row) (hr : ∀ r, row = some r → w0.heap.size ≤ r ∧ ∃ o : Obj, w.heap[r]? = some o ∧ o.isCells = false) : OwnS w0 w' L e k v c :=
  ⟨h.vars.turn hg hr, h.row.imp id fun ⟨x, h1, h2⟩ => ⟨x, h1, h2.turn hg hr⟩⟩
end Go
namespace Go.Proofs.Cd
open Go Go.RowKit
/-- What a round keeps: what lay below n₀, and the two cells that the iterator reads. -/
def ChK (n₀ bs bn : Nat) (W W' : World) : Prop := Below n₀ W W' ∧ W'.cell? ⟨bs, 0, none⟩ = W.cell? ⟨bs, 0, none⟩ ∧ W'.cell? ⟨bn, 0, none⟩ = W.cell? ⟨bn, 0, none⟩
theorem ChK.trans {n₀ bs bn : Nat} {A B C : World} (h : ChK n₀ bs bn A B) (k : ChK n₀ bs bn B C) : ChK n₀ bs bn A C := ⟨h.1.trans k.1, k.2.1.trans h.2.1, k.2.2.trans h.2.2⟩
theorem ChK.refl (n₀ bs bn : Nat) (A : World) : ChK n₀ bs bn A A := ⟨Below.refl _ _, rfl, rfl⟩
theorem ChK.turn {n₀ bs bn : Nat} {w : World} (hn : n₀ ≤ w.heap.size) (h1 : bs < w.heap.size) (h2 : bn < w.heap.size) (W : World) (l : Nat) (o o' : Obj) (hl : w.heap.size ≤ l) (h : W.heap[l]? = some o) (a : o.isCells = false) (b : o.isWalk = false) : ChK n₀ bs bn W (W.putObj l o') := by
  have hb := belowK_b (n₀ := w.heap.size) (w := w) (Nat.le_refl _) W l o o' hl h a b
  exact ⟨hb.mono hn, hb.cell (p := ⟨bs, 0, none⟩) h1, hb.cell (p := ⟨bn, 0, none⟩) h2⟩
/-- The first k of N. -/
def fst (N k : Nat) : List (Fin N) := (List.finRange N).take k
theorem fst_succ {N k : Nat} (h : k < N) : fst N (k + 1) = fst N k ++ [⟨k, h⟩] := by
  unfold fst
  rw [List.take_succ_eq_append_getElem (by simpa using h)]
  simp
theorem fst_len {N k : Nat} (h : k ≤ N) : (fst N k).length = k := by unfold fst; simp; omega
theorem fst_all (N : Nat) : fst N N = List.finRange N := by unfold fst; exact List.take_of_length_le (by simp)
end Go.Proofs.Cd
namespace Go.Proofs.Ythpodinbbmgfoaa
open Go.Proofs.Cd Go.Proofs.Nm Go.RowKit Go.Shelf
attribute [local go_sem] Oper.semAt_some
set_option maxRecDepth 100000 in
set_option maxHeartbeats 2000000 in
/-- The maker: two boxes. -/
theorem chunk_in (n : Nat) (a : Option Addr) (len cap : Nat) (w : World) :
    CallsIn Fence.wide n Try.prog 99 #[.slice a len cap, .int .i64 9] w fun e w' => e = .returned (.func (.func 113) #[] #[.pointer (some ⟨w.heap.size, 0, none⟩), .pointer (some ⟨w.heap.size + 1, 0, none⟩)]) ∧
      w' = (w.alloc (.cells #[.slice a len cap] 58)).alloc (.cells #[.int .i64 9] 3) := by
  refine callsIn_of_wp Try.func99 rfl trivial ?_ rfl
  simp only [Try.ntmps99, List.size_toArray, List.length_cons, List.length_nil, Nat.reduceAdd, Nat.reduceSub, Array.replicate_succ, Array.replicate_zero, List.push_toArray, List.append_toArray, List.nil_append, List.cons_append]
  gi_wp2
  go_ret
  exact ⟨rfl, rfl⟩
set_option maxRecDepth 100000 in
set_option maxHeartbeats 4000000 in
/-- The iterator: N parts of nine bytes. -/
theorem chunk1_in (n : Nat) (hn1 : 1 ≤ n) (l bs bn n₀ b o N cap : Nat) (hN : N ≤ 128) (hcap : 9 * N ≤ cap) (hcm : cap ≤ maxLen) (J Jx : List (Fin N) → World → Prop)
    (hJab : ∀ s W m, J s W → J s (W.drewN m)) (hY : ∀ pre x W, J pre W → pre.length < N → YieldAt Fence.wide (n - 1) Try.prog l #[.slice (some ⟨b, o + 9 * x.1, none⟩) 9 9] W fun e W' =>
      (e = .returned (.bool true) ∧ J (pre ++ [x]) W' ∧ ChK n₀ bs bn W W') ∨ (e = .returned (.bool false) ∧ Jx (pre ++ [x]) W'))
    (W : World) (hs : W.cell? ⟨bs, 0, none⟩ = some (.slice (some ⟨b, o, none⟩) (9 * N) cap)) (hn : W.cell? ⟨bn, 0, none⟩ = some (.int .i64 9)) (h0 : J [] W) :
    CallsIn Fence.wide n Try.prog 113 #[.func (.yield l) #[] #[], .pointer (some ⟨bs, 0, none⟩), .pointer (some ⟨bn, 0, none⟩)] W fun e W' => (∃ v, e = .returned v) ∧
      ((∃ ys, ys = List.finRange N ∧ J ys W') ∨ (∃ pre, True ∧ Jx pre W')) := by
  refine callsIn_of_wp Try.func113 rfl trivial ?_ rfl
  simp only [Try.ntmps113, List.size_toArray, List.length_cons, List.length_nil, Nat.reduceAdd, Nat.reduceSub, Array.replicate_succ, Array.replicate_zero, List.push_toArray, List.append_toArray, List.nil_append, List.cons_append]
  obtain ⟨M, hM⟩ : ∃ M, M = 9 * N := ⟨_, rfl⟩
  have HM := Lib.hid hM
  rw [← hM] at hs hcap
  have hm : M ≤ 1152 := by omega
  have hmc : M ≤ cap := hcap
  have hcc : cap ≤ 9223372036854775807 := by unfold maxLen at hcm; omega
  clear hM hcm hcap
  gi_wp2
  gi_loopw [4] (fun i wr => ∃ k j : Nat, Hid (j = 9 * k) ∧ k ≤ N ∧ i = .int .i64 j ∧ J (fst N k) wr ∧ Hid (wr.cell? ⟨bs, 0, none⟩ = some (.slice (some ⟨b, o, none⟩) M cap)) ∧ Hid (wr.cell? ⟨bn, 0, none⟩ = some (.int .i64 9)))
    (fun i _ => M - (intOf i).toNat)
  case atStart => exact ⟨0, 0, Lib.hid rfl, Nat.zero_le _, rfl, h0, Lib.hid hs, Lib.hid hn⟩
  case round =>
    obtain ⟨k, j, hj, hk, rfl, hJs, hcs, hcn⟩ := hrel
    have c1 := hcs.out
    have c2 := hcn.out
    by_cases hlt : k < N
    · have hjn : j + 9 ≤ M := by have := hj.out; have := HM.out; omega
      have hki : (j : Int) < (M : Int) := by omega
      have q0 : (0 : Int) ≤ (j : Int) := by omega
      have q2 : IntKind.i64.wrap ((j : Int) + 9) = (j : Int) + 9 := IntWalk.i64_in _ (by omega)
      have q4 : ((j : Int) + 9).toNat = j + 9 := by omega
      have q6 : (j : Int) ≤ (j : Int) + 9 := by omega
      have q7 : (j : Int) + 9 ≤ (cap : Int) := by omega
      have q8 : j + 9 - j = 9 := by omega
      have q9 : ¬ cap = j := by omega
      have q10 : (j : Int) ≤ (M : Int) := by omega
      gi_wp2
      refine wpIn_wide.2 ?_
      go_quiet (fail)
      have hJd := hJab _ _ nq hJs
      obtain ⟨fn, tmps, assign, body, hy, hR⟩ := hY _ ⟨k, hlt⟩ _ hJd (by rw [fst_len hk]; exact hlt)
      dsimp only at hy
      rw [← hj.out] at hy
      have c1' : (wr.drewN nq).cell? ⟨bs, 0, none⟩ = some (.slice (some ⟨b, o, none⟩) M cap) := c1
      gi_wp2
      refine hR.mono ?_
      rintro e W3 (⟨rfl, hJ3, hk3⟩ | ⟨rfl, hJx3⟩)
      · have d1 := hk3.2.1.trans c1
        have d2 := hk3.2.2.trans c2
        gi_wp2
        go_roundw
        case rel => exact ⟨k + 1, j + 9, Lib.hid (by have := hj.out; omega), by omega, by simp, by rw [fst_succ hlt]; exact hJ3, Lib.hid d1, Lib.hid d2⟩
        case measure => simp [intOf]; omega
      · gi_wp2
        refine bodyPost_ret (results_none rfl _ _ _) rfl ?_
        exact ⟨⟨_, rfl⟩, .inr ⟨_, trivial, hJx3⟩⟩
    · obtain rfl : k = N := by omega
      have hjn : j = M := by have := hj.out; have := HM.out; omega
      have hki : ¬ (j : Int) < (M : Int) := by omega
      gi_wp2
      go_end0
      rw [fst_all] at hJs
      exact ⟨⟨_, rfl⟩, .inl hJs⟩
theorem chunk_stops (n : Nat) (hn1 : 1 ≤ n) (bs bn n₀ b o N cap : Nat) (hN : N ≤ 128) (hcap : 9 * N ≤ cap) (hcm : cap ≤ maxLen) (w : World) (hbs : bs < w.heap.size) (hbn : bn < w.heap.size)
    (hs : w.cell? ⟨bs, 0, none⟩ = some (.slice (some ⟨b, o, none⟩) (9 * N) cap)) (hn : w.cell? ⟨bn, 0, none⟩ = some (.int .i64 9)) :
    SeqStopsK Fence.wide n Try.prog 113 #[.pointer (some ⟨bs, 0, none⟩), .pointer (some ⟨bn, 0, none⟩)] (fun x : Fin N => #[.slice (some ⟨b, o + 9 * x.1, none⟩) 9 9]) (ChK n₀ bs bn) (fun ys => ys = List.finRange N) (fun _ => True) N w :=
  fun l J Jx W hW hJ _ hY h0 => chunk1_in n hn1 l bs bn n₀ b o N cap hN hcap hcm J Jx (fun s W m h => hJ s W _ none h ⟨rfl, rfl, rfl, Nat.le_refl _, fun _ _ _ => rfl⟩ (fun r e => by cases e)) hY W
    ((hW.cell (p := ⟨bs, 0, none⟩) hbs).trans hs) ((hW.cell (p := ⟨bn, 0, none⟩) hbn).trans hn) h0
end Go.Proofs.Ythpodinbbmgfoaa
