/-
  What the laws of the code lean on: slices that are read, call after call; the law's own head; the opening of programs and of bytes.
-/
import Derived.Test.YthpodinbbmgfoaaCdGet
import Derived.Test.YthpodinbbmgfoaaCdArgs
import Derived.Test.YthpodinbbmgfoaaLaw
set_option linter.unusedVariables false
namespace Go
open Go.RowKit
/-- Slices that are read on, whatever is called: since w0 only new memory has come. -/
structure Rds (w0 w : World) (S : List (Nat × Value × List Value)) : Prop where
  nw : New w0 w
  all : ∀ x ∈ S, Rd w x.1 x.2.1 x.2.2
theorem Rds.start (w : World) : Rds w w [] := ⟨Below.refl _ _, fun _ h => (List.not_mem_nil h).elim⟩
theorem Rds.new {w0 w w' : World} {S : List (Nat × Value × List Value)} (h : Rds w0 w S) (hn : New w w') : Rds w0 w' S := ⟨h.nw.to hn, fun x hx => (h.all x hx).new hn⟩
theorem Rds.add {w0 w : World} {S : List (Nat × Value × List Value)} (h : Rds w0 w S) {k : Nat} {v : Value} {c : List Value} (hr : Rd w k v c) : Rds w0 w ((k, v, c) :: S) :=
  ⟨h.nw, fun x hx => by
    rcases List.mem_cons.1 hx with rfl | hx
    · exact hr
    · exact h.all x hx⟩
theorem Rds.z {x : Nat × Value × List Value} {l : List (Nat × Value × List Value)} : x ∈ x :: l := List.Mem.head _
theorem Rds.s {x y : Nat × Value × List Value} {l : List (Nat × Value × List Value)} (h : x ∈ l) : x ∈ y :: l := List.Mem.tail _ h
theorem Rds.rd {w0 w : World} {S : List (Nat × Value × List Value)} (h : Rds w0 w S) {k : Nat} {v : Value} {c : List Value} (hm : (k, v, c) ∈ S) : Rd w k v c := h.all _ hm
theorem Rd.take {w : World} {k n cap : Nat} {ao : Option Addr} {c : List Value} (h : Rd w k (.slice ao n cap) c) {m : Nat} (hm : m ≤ n) : Rd w k (.slice ao m cap) (c.take (m * k)) := by
  obtain ⟨ao', n', cap', e, g1, g2, g3, g4, g5⟩ := h
  cases e
  have hle : m * k ≤ n * k := Nat.mul_le_mul_right _ hm
  refine ⟨ao, m, cap, rfl, ?_, by omega, g3, fun h => ⟨by have := (g4 h).1; omega, (g4 h).2⟩, fun i hi => ?_⟩
  · rw [List.length_take, g1]; omega
  · rw [List.length_take, g1] at hi
    obtain ⟨b', o', e', hb, hc⟩ := g5 i (by rw [g1]; omega)
    refine ⟨b', o', e', hb, ?_⟩
    rw [hc, List.getElem?_take, if_pos (by omega)]
end Go
namespace Go.Proofs.Cd
open Go Go.RowKit Go.Proofs.Nm
def L0 : List Inst := [(1, 5), (0, 0)]
theorem good_L0 : ∀ x ∈ L0, goodI x := by
  intro x hx
  simp only [L0, List.mem_cons, List.not_mem_nil, or_false] at hx
  rcases hx with rfl | rfl <;> (unfold goodI; decide)
theorem good_one {a : Int} {n : Nat} (h : goodI (a, n)) : ∀ x ∈ [((a, n) : Inst)], goodI x := by
  intro x hx
  rw [List.mem_singleton.1 hx]; exact h
theorem encB_good (x : Inst) : goodB (encB x) := by
  intro y hy
  unfold encB at hy
  rcases List.mem_cons.1 hy with rfl | hy
  · omega
  · unfold leB at hy
    obtain ⟨i, _, rfl⟩ := List.mem_map.1 hy
    exact Nat.mod_lt _ (by omega)
theorem putB_good (l : List Inst) : goodB (putB l) := by
  intro y hy
  unfold putB at hy
  obtain ⟨x, _, hx⟩ := List.mem_flatMap.1 hy
  exact encB_good x y hx
end Go.Proofs.Cd
theorem Go.Proofs.Cd.cells_take (l : List Nat) (n : Nat) : (Go.Proofs.Nm.cellsB l).take (n * 1) = Go.Proofs.Nm.cellsB (l.take n) := by
  unfold Go.Proofs.Nm.cellsB; rw [Nat.mul_one, List.map_take]
namespace Go.Proofs.Ythpodinbbmgfoaa
open Go.Proofs.Cd Go.Proofs.Nm Go.RowKit
set_option maxRecDepth 100000 in
set_option maxHeartbeats 4000000 in
theorem heads_any (w : World) : Calls Try.prog 57 #[] w fun e w' => e = .returned (.bool true) ∧ New w w' := by
  obtain ⟨u, hu⟩ : ∃ u, Value.slice (some ⟨w.heap.size, 0, none⟩) 2 2 = u := ⟨_, rfl⟩
  have hS : Rds w (w.alloc (.cells #[.int .i64 1, .int .u64 5, .int .i64 0, .int .u64 0] 77)) [(2, .slice (some ⟨w.heap.size, 0, none⟩) 1 2, cellsI [(1, 5)]), (2, .slice (some ⟨w.heap.size, 0, none⟩) 2 2, cellsI L0)] := by
    have h : Rd (w.alloc (.cells #[.int .i64 1, .int .u64 5, .int .i64 0, .int .u64 0] 77)) 2 (.slice (some ⟨w.heap.size, 0, none⟩) 2 2) (cellsI L0) := rd_alloc w 2 2 _ _ rfl (by unfold maxLen; omega)
    exact (((Rds.start w).new (made_alloc w _ _).new).add h).add (h.take (m := 1) (by omega))
  clear hu u
  have e1 : chk L0 = true := by decide
  have e2 : chk [(1, 5)] = false := by decide
  have e3 : chk [(20, 1)] = false := by decide
  have e4 : getE (putB L0) = 0 := by decide +kernel
  have e5 : getL (putB L0) = L0 := by decide +kernel
  have e5' : okB (putB L0) = true := by decide +kernel
  have e6 : getE ((putB L0).take 17) = 3 := by decide +kernel
  have kP1 : ∀ v w', Rd w' 2 v (cellsI L0) → Calls Try.prog 58 #[v] w' fun e w2 => ∃ b o cap, e = .returned (.tuple #[.slice (some ⟨b, o, none⟩) 18 cap, .int .i64 0]) ∧ (Rd w2 1 (.slice (some ⟨b, o, none⟩) 18 cap) (cellsB (putB L0)) ∧ 18 ≤ cap) ∧ New w' w2 := fun v w' h =>
    (Put_any v L0 w' h good_L0).mono fun e w2 ⟨v2, g1, g2, g3⟩ => by
      rw [e1] at g1 g2
      have g2' : Rd w2 1 v2 (cellsB (putB L0)) := g2
      obtain ⟨b, o, n, cap, rfl, q1, q2, q3, _⟩ := g2'.some (by decide +kernel)
      have : (cellsB (putB L0)).length = 18 := by decide +kernel
      have : n = 18 := by omega
      subst this
      exact ⟨b, o, cap, g1, ⟨g2', q2⟩, g3⟩
  have kP2 : ∀ v w', Rd w' 2 v (cellsI [(1, 5)]) → Calls Try.prog 58 #[v] w' fun e w2 => ∃ v, e = .returned (.tuple #[v, .int .i64 290]) ∧ New w' w2 := fun v w' h =>
    (Put_any v _ w' h (good_one (by unfold goodI; decide))).mono fun e w2 ⟨v2, g1, g2, g3⟩ => by
      rw [e2] at g1
      exact ⟨v2, g1, g3⟩
  have kG1 : ∀ v w', Rd w' 1 v (cellsB (putB L0)) → Calls Try.prog 60 #[v] w' fun e w2 => ∃ v, e = .returned (.tuple #[v, .int .i64 0]) ∧ Rd w2 2 v (cellsI L0) ∧ New w' w2 := fun v w' h =>
    (Get_any v _ w' h (putB_good _)).mono fun e w2 ⟨v2, g1, g2, g3⟩ => by
      rw [e4] at g1
      rw [e5', e5] at g2
      exact ⟨v2, g1, g2, g3⟩
  have kG2 : ∀ v w', Rd w' 1 v (cellsB ((putB L0).take 17)) → Calls Try.prog 60 #[v] w' fun e w2 => ∃ v, e = .returned (.tuple #[v, .int .i64 3]) ∧ New w' w2 := fun v w' h =>
    (Get_any v _ w' h (fun x hx => putB_good _ x (List.mem_of_mem_take hx))).mono fun e w2 ⟨v2, g1, g2, g3⟩ => by
      rw [e6] at g1
      exact ⟨v2, g1, g3⟩
  have kC1 : ∀ v w', Rd w' 2 v (cellsI L0) → Calls Try.prog 68 #[v] w' fun e w2 => e = .returned (.bool true) ∧ New w' w2 := fun v w' h => by
    have := Check_any v L0 w' h good_L0
    rwa [e1] at this
  have kC2 : ∀ w', Calls Try.prog 68 #[.slice (some ⟨w'.heap.size, 0, none⟩) 1 1] (w'.alloc (.cells #[.int .i64 20, .int .u64 1] 77)) fun e w2 => e = .returned (.bool false) ∧ New w' w2 := fun w' => by
    have h : Rd (w'.alloc (.cells #[.int .i64 20, .int .u64 1] 77)) 2 (.slice (some ⟨w'.heap.size, 0, none⟩) 1 1) (cellsI [(20, 1)]) := rd_alloc w' 2 1 _ _ rfl (by unfold maxLen; omega)
    have := Check_any _ _ _ h (good_one (by unfold goodI; decide))
    rw [e3] at this
    exact this.mono fun e w2 ⟨g1, g2⟩ => ⟨g1, (made_alloc w' _ _).new.to g2⟩
  have kS : ∀ u v w', Rd w' 2 u (cellsI L0) → Rd w' 2 v (cellsI L0) → Calls Try.prog 67 #[u, v] w' fun e w2 => e = .returned (.bool true) ∧ New w' w2 := fun u v w' h1 h2 => by
    have := Same_any u v L0 L0 w' h1 h2 good_L0 good_L0
    rwa [decide_eq_true rfl] at this
  have kA : ∀ w', Calls Try.prog 62 #[.int .i64 6] w' fun e w2 => e = .returned (.tuple #[.int .i64 2, .int .i64 1]) ∧ New w' w2 := fun w' => Args_any 6 w'
  have kF1 : ∀ w', Calls Try.prog 64 #[.int .i64 10] w' fun e w2 => e = .returned (.tuple #[.int .i64 4, .bool true]) ∧ New w' w2 := fun w' => Fits_any 10 w'
  have kF2 : ∀ w', Calls Try.prog 64 #[.int .i64 18] w' fun e w2 => e = .returned (.tuple #[.int .i64 0, .bool false]) ∧ New w' w2 := fun w' => Fits_any 18 w'
  clear e1 e2 e3 e4 e5 e5' e6
  go_enter Try.func57, Try.ntmps57
  go_wp2_with (first
    | (go_at_call 58; (with_reducible refine (kP1 _ _ (hS.rd (by first | exact Rds.z | exact Rds.s (Rds.z) | exact Rds.s (Rds.s (Rds.z)) | exact Rds.s (Rds.s (Rds.s (Rds.z))) | exact Rds.s (Rds.s (Rds.s (Rds.s (Rds.z)))) | exact Rds.s (Rds.s (Rds.s (Rds.s (Rds.s (Rds.z))))) | exact Rds.s (Rds.s (Rds.s (Rds.s (Rds.s (Rds.s (Rds.z)))))) | exact Rds.s (Rds.s (Rds.s (Rds.s (Rds.s (Rds.s (Rds.s (Rds.z))))))) | exact Rds.s (Rds.s (Rds.s (Rds.s (Rds.s (Rds.s (Rds.s (Rds.s (Rds.z))))))))))).mono ?_); rintro e w1 ⟨bp, op, cp, rfl, ⟨hr1, hc1⟩, hn1⟩; replace hS := (hS.new hn1).add hr1; have hc1i : (17 : Int) ≤ cp := (by omega); replace hS := hS.add (hr1.take (m := 17) (by omega)); rw [cells_take] at hS; clear hn1 hr1)
    | (go_at_call 58; (with_reducible refine (kP2 _ _ (hS.rd (by first | exact Rds.z | exact Rds.s (Rds.z) | exact Rds.s (Rds.s (Rds.z)) | exact Rds.s (Rds.s (Rds.s (Rds.z))) | exact Rds.s (Rds.s (Rds.s (Rds.s (Rds.z)))) | exact Rds.s (Rds.s (Rds.s (Rds.s (Rds.s (Rds.z))))) | exact Rds.s (Rds.s (Rds.s (Rds.s (Rds.s (Rds.s (Rds.z)))))) | exact Rds.s (Rds.s (Rds.s (Rds.s (Rds.s (Rds.s (Rds.s (Rds.z))))))) | exact Rds.s (Rds.s (Rds.s (Rds.s (Rds.s (Rds.s (Rds.s (Rds.s (Rds.z))))))))))).mono ?_); rintro e w1 ⟨v1, rfl, hn1⟩; replace hS := hS.new hn1; clear hn1)
    | (go_at_call 60; (with_reducible refine (kG1 _ _ (hS.rd (by first | exact Rds.z | exact Rds.s (Rds.z) | exact Rds.s (Rds.s (Rds.z)) | exact Rds.s (Rds.s (Rds.s (Rds.z))) | exact Rds.s (Rds.s (Rds.s (Rds.s (Rds.z)))) | exact Rds.s (Rds.s (Rds.s (Rds.s (Rds.s (Rds.z))))) | exact Rds.s (Rds.s (Rds.s (Rds.s (Rds.s (Rds.s (Rds.z)))))) | exact Rds.s (Rds.s (Rds.s (Rds.s (Rds.s (Rds.s (Rds.s (Rds.z))))))) | exact Rds.s (Rds.s (Rds.s (Rds.s (Rds.s (Rds.s (Rds.s (Rds.s (Rds.z))))))))))).mono ?_); rintro e w1 ⟨v1, rfl, hr1, hn1⟩; replace hS := (hS.new hn1).add hr1; clear hn1 hr1)
    | (go_at_call 60; (with_reducible refine (kG2 _ _ (hS.rd (by first | exact Rds.z | exact Rds.s (Rds.z) | exact Rds.s (Rds.s (Rds.z)) | exact Rds.s (Rds.s (Rds.s (Rds.z))) | exact Rds.s (Rds.s (Rds.s (Rds.s (Rds.z)))) | exact Rds.s (Rds.s (Rds.s (Rds.s (Rds.s (Rds.z))))) | exact Rds.s (Rds.s (Rds.s (Rds.s (Rds.s (Rds.s (Rds.z)))))) | exact Rds.s (Rds.s (Rds.s (Rds.s (Rds.s (Rds.s (Rds.s (Rds.z))))))) | exact Rds.s (Rds.s (Rds.s (Rds.s (Rds.s (Rds.s (Rds.s (Rds.s (Rds.z))))))))))).mono ?_); rintro e w1 ⟨v1, rfl, hn1⟩; replace hS := hS.new hn1; clear hn1)
    | (go_at_call 62; (with_reducible refine (kA _).mono ?_); rintro e w1 ⟨rfl, hn1⟩; replace hS := hS.new hn1; clear hn1)
    | (go_at_call 64; (with_reducible refine (kF1 _).mono ?_); rintro e w1 ⟨rfl, hn1⟩; replace hS := hS.new hn1; clear hn1)
    | (go_at_call 64; (with_reducible refine (kF2 _).mono ?_); rintro e w1 ⟨rfl, hn1⟩; replace hS := hS.new hn1; clear hn1)
    | (go_at_call 68; (with_reducible refine (kC1 _ _ (hS.rd (by first | exact Rds.z | exact Rds.s (Rds.z) | exact Rds.s (Rds.s (Rds.z)) | exact Rds.s (Rds.s (Rds.s (Rds.z))) | exact Rds.s (Rds.s (Rds.s (Rds.s (Rds.z)))) | exact Rds.s (Rds.s (Rds.s (Rds.s (Rds.s (Rds.z))))) | exact Rds.s (Rds.s (Rds.s (Rds.s (Rds.s (Rds.s (Rds.z)))))) | exact Rds.s (Rds.s (Rds.s (Rds.s (Rds.s (Rds.s (Rds.s (Rds.z))))))) | exact Rds.s (Rds.s (Rds.s (Rds.s (Rds.s (Rds.s (Rds.s (Rds.s (Rds.z))))))))))).mono ?_); rintro e w1 ⟨rfl, hn1⟩; replace hS := hS.new hn1; clear hn1)
    | (go_at_call 68; (with_reducible refine (kC2 _).mono ?_); rintro e w1 ⟨rfl, hn1⟩; replace hS := hS.new hn1; clear hn1)
    | (go_at_call 67; (with_reducible refine (kS _ _ _ (hS.rd (by first | exact Rds.z | exact Rds.s (Rds.z) | exact Rds.s (Rds.s (Rds.z)) | exact Rds.s (Rds.s (Rds.s (Rds.z))) | exact Rds.s (Rds.s (Rds.s (Rds.s (Rds.z)))) | exact Rds.s (Rds.s (Rds.s (Rds.s (Rds.s (Rds.z))))) | exact Rds.s (Rds.s (Rds.s (Rds.s (Rds.s (Rds.s (Rds.z)))))) | exact Rds.s (Rds.s (Rds.s (Rds.s (Rds.s (Rds.s (Rds.s (Rds.z))))))) | exact Rds.s (Rds.s (Rds.s (Rds.s (Rds.s (Rds.s (Rds.s (Rds.s (Rds.z)))))))))) (hS.rd (by first | exact Rds.z | exact Rds.s (Rds.z) | exact Rds.s (Rds.s (Rds.z)) | exact Rds.s (Rds.s (Rds.s (Rds.z))) | exact Rds.s (Rds.s (Rds.s (Rds.s (Rds.z)))) | exact Rds.s (Rds.s (Rds.s (Rds.s (Rds.s (Rds.z))))) | exact Rds.s (Rds.s (Rds.s (Rds.s (Rds.s (Rds.s (Rds.z)))))) | exact Rds.s (Rds.s (Rds.s (Rds.s (Rds.s (Rds.s (Rds.s (Rds.z))))))) | exact Rds.s (Rds.s (Rds.s (Rds.s (Rds.s (Rds.s (Rds.s (Rds.s (Rds.z))))))))))).mono ?_); rintro e w1 ⟨rfl, hn1⟩; replace hS := hS.new hn1; clear hn1))
  go_ret
  exact ⟨rfl, hS.nw⟩
end Go.Proofs.Ythpodinbbmgfoaa
