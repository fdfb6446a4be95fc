/-
  The walk of the law CodeBack.
-/
import Derived.Test.YthpodinbbmgfoaaCdTells
import Derived.Test.YthpodinbbmgfoaaCdPlain
set_option linter.unusedVariables false
namespace Go.Proofs.Ythpodinbbmgfoaa
open Go.Proofs.Cd Go.Proofs.Nm Go.RowKit
set_option maxRecDepth 100000 in
set_option maxHeartbeats 8000000 in
theorem CodeBack_any (u v : Value) (l : List Inst) (b : List Nat) (w : World) (hrd : Rd w 2 u (cellsI l)) (hg : ∀ x ∈ l, goodI x) (hrb : Rd w 1 v (cellsB b)) (hb : goodB b) :
    Calls Try.prog 12 #[u, v] w fun e w' => e = .returned (.bool true) ∧ New w w' := by
  have hS := ((Rds.start w).add hrb).add hrd
  obtain ⟨ao, n, cap, rfl, h1, h2, h3, _, _⟩ := hrd
  obtain ⟨bo, m, cap2, rfl, k1, k2, k3, _, _⟩ := hrb
  rw [len_cellsI] at h1
  rw [cellsB_len, Nat.mul_one] at k1
  have HL : Hid (l.length = n) := Lib.hid (by omega)
  have HM : Hid (b.length = m) := Lib.hid k1
  have hn : n ≤ 9223372036854775807 := by unfold maxLen at h3; omega
  have hm : m ≤ 9223372036854775807 := by unfold maxLen at k3; omega
  clear h1 h2 h3 k1 k2 k3
  by_cases hc : Cd.chk l = true
  · have kC : ∀ w', Rd w' 2 (.slice ao n cap) (cellsI l) → Calls Try.prog 69 #[.slice ao n cap] w' fun e w2 => e = .returned (.bool true) ∧ New w' w2 := fun w' h => by
      have := RCheck_any _ l w' h hg
      rwa [hc] at this
    by_cases g2 : 1152 < m
    · have g2i : (1152 : Int) < m := by omega
      clear hc hg hb HL HM
      go_enter Try.func12, Try.ntmps12
      go_wp2_with (first
        | (go_at_call 69; (with_reducible refine (kC _ (hS.rd (by first | exact Rds.z | exact Rds.s (Rds.z) | exact Rds.s (Rds.s (Rds.z)) | exact Rds.s (Rds.s (Rds.s (Rds.z))) | exact Rds.s (Rds.s (Rds.s (Rds.s (Rds.z)))) | exact Rds.s (Rds.s (Rds.s (Rds.s (Rds.s (Rds.z))))) | exact Rds.s (Rds.s (Rds.s (Rds.s (Rds.s (Rds.s (Rds.z)))))) | exact Rds.s (Rds.s (Rds.s (Rds.s (Rds.s (Rds.s (Rds.s (Rds.z))))))) | exact Rds.s (Rds.s (Rds.s (Rds.s (Rds.s (Rds.s (Rds.s (Rds.s (Rds.z))))))))))).mono ?_); rintro e w1 ⟨rfl, hn1⟩; replace hS := hS.new hn1; clear hn1)
        | (go_at_call 57; (with_reducible refine (heads_any _).mono ?_); rintro e w1 ⟨rfl, hn1⟩; replace hS := hS.new hn1; clear hn1))
      go_ret
      exact ⟨rfl, hS.nw⟩
    · have g2i : ¬ (1152 : Int) < m := by omega
      obtain ⟨z1, z2, z3⟩ := back_put hc hg
      obtain ⟨c1, c2, _⟩ := chk_ops hc
      have hn128 : n ≤ 128 := by have := HL.out; omega
      obtain ⟨K, hK⟩ : ∃ K : Nat, K = 9 * n := ⟨_, rfl⟩
      have hKi : IntKind.i64.wrap (9 * (n : Int)) = (K : Int) := by rw [IntWalk.i64_in _ (by omega)]; omega
      have kP : ∀ w', Rd w' 2 (.slice ao n cap) (cellsI l) → Calls Try.prog 58 #[.slice ao n cap] w' fun e w2 => ∃ a c, e = .returned (.tuple #[.slice a K c, .int .i64 0]) ∧ Rd w2 1 (.slice a K c) (cellsB (putB l)) ∧ New w' w2 := fun w' h =>
        (Put_any _ l w' h hg).mono fun e w2 ⟨v2, q1, q2, q3⟩ => by
          rw [hc] at q1 q2
          have q2' : Rd w2 1 v2 (cellsB (putB l)) := q2
          obtain ⟨a, k, c, rfl, r1, _⟩ := id q2'
          have : k = K := by rw [cellsB_len, putB_len] at r1; have := HL.out; omega
          subst this
          exact ⟨a, c, q1, q2', q3⟩
      have kG : ∀ v w', Rd w' 1 v (cellsB (putB l)) → Calls Try.prog 60 #[v] w' fun e w2 => ∃ v, e = .returned (.tuple #[v, .int .i64 0]) ∧ Rd w2 2 v (cellsI l) ∧ New w' w2 := fun v w' h => by
        have := Get_any v _ w' h (putB_good l)
        unfold GetR at this
        rwa [z3, z1, z2] at this
      have kS : ∀ u v w', Rd w' 2 u (cellsI l) → Rd w' 2 v (cellsI l) → Calls Try.prog 67 #[u, v] w' fun e w2 => e = .returned (.bool true) ∧ New w' w2 := fun u v w' h1 h2 => by
        have := Same_any u v l l w' h1 h2 hg hg
        rwa [decide_eq_true rfl] at this
      clear z1 z2 z3 c1 c2 hn128 hK
      by_cases ho : okB b = true
      · obtain ⟨y1, y2, y3⟩ := back_get ho hb
        have kG2 : ∀ w', Rd w' 1 (.slice bo m cap2) (cellsB b) → Calls Try.prog 60 #[.slice bo m cap2] w' fun e w2 => ∃ v, e = .returned (.tuple #[v, .int .i64 0]) ∧ Rd w2 2 v (cellsI (getL b)) ∧ New w' w2 := fun w' h => by
          have := Get_any _ _ w' h hb
          unfold GetR at this
          rwa [y3, ho] at this
        have kP2 : ∀ v w', Rd w' 2 v (cellsI (getL b)) → Calls Try.prog 58 #[v] w' fun e w2 => ∃ v, e = .returned (.tuple #[v, .int .i64 0]) ∧ Rd w2 1 v (cellsB b) ∧ New w' w2 := fun v w' h => by
          have := Put_any v _ w' h (getN_good hb _)
          unfold PutR at this
          rw [y1] at this
          simp only [if_true, y2] at this
          exact this
        have kB : ∀ u v w', Rd w' 1 u (cellsB b) → Rd w' 1 v (cellsB b) → Calls Try.prog 66 #[u, v] w' fun e w2 => e = .returned (.bool true) ∧ New w' w2 := fun u v w' h1 h2 => by
          have := Bytes_any u v b b w' h1 h2 hb hb
          rw [decide_eq_true rfl] at this
          exact this.mono fun e w2 ⟨q1, q2⟩ => ⟨q1, by rw [← q2]; exact Below.refl _ _⟩
        clear y1 y2 y3 ho hc hg hb HL HM
        go_enter Try.func12, Try.ntmps12
        go_wp2_with (first
          | (go_at_call 69; (with_reducible refine (kC _ (hS.rd (by first | exact Rds.z | exact Rds.s (Rds.z) | exact Rds.s (Rds.s (Rds.z)) | exact Rds.s (Rds.s (Rds.s (Rds.z))) | exact Rds.s (Rds.s (Rds.s (Rds.s (Rds.z)))) | exact Rds.s (Rds.s (Rds.s (Rds.s (Rds.s (Rds.z))))) | exact Rds.s (Rds.s (Rds.s (Rds.s (Rds.s (Rds.s (Rds.z)))))) | exact Rds.s (Rds.s (Rds.s (Rds.s (Rds.s (Rds.s (Rds.s (Rds.z))))))) | exact Rds.s (Rds.s (Rds.s (Rds.s (Rds.s (Rds.s (Rds.s (Rds.s (Rds.z))))))))))).mono ?_); rintro e w1 ⟨rfl, hn1⟩; replace hS := hS.new hn1; clear hn1)
          | (go_at_call 57; (with_reducible refine (heads_any _).mono ?_); rintro e w1 ⟨rfl, hn1⟩; replace hS := hS.new hn1; clear hn1)
          | (go_at_call 58; (with_reducible refine (kP _ (hS.rd (by first | exact Rds.z | exact Rds.s (Rds.z) | exact Rds.s (Rds.s (Rds.z)) | exact Rds.s (Rds.s (Rds.s (Rds.z))) | exact Rds.s (Rds.s (Rds.s (Rds.s (Rds.z)))) | exact Rds.s (Rds.s (Rds.s (Rds.s (Rds.s (Rds.z))))) | exact Rds.s (Rds.s (Rds.s (Rds.s (Rds.s (Rds.s (Rds.z)))))) | exact Rds.s (Rds.s (Rds.s (Rds.s (Rds.s (Rds.s (Rds.s (Rds.z))))))) | exact Rds.s (Rds.s (Rds.s (Rds.s (Rds.s (Rds.s (Rds.s (Rds.s (Rds.z))))))))))).mono ?_); rintro e w1 ⟨a1, c1, rfl, hr1, hn1⟩; replace hS := (hS.new hn1).add hr1; clear hn1 hr1)
          | (go_at_call 58; (with_reducible refine (kP2 _ _ (hS.rd (by first | exact Rds.z | exact Rds.s (Rds.z) | exact Rds.s (Rds.s (Rds.z)) | exact Rds.s (Rds.s (Rds.s (Rds.z))) | exact Rds.s (Rds.s (Rds.s (Rds.s (Rds.z)))) | exact Rds.s (Rds.s (Rds.s (Rds.s (Rds.s (Rds.z))))) | exact Rds.s (Rds.s (Rds.s (Rds.s (Rds.s (Rds.s (Rds.z)))))) | exact Rds.s (Rds.s (Rds.s (Rds.s (Rds.s (Rds.s (Rds.s (Rds.z))))))) | exact Rds.s (Rds.s (Rds.s (Rds.s (Rds.s (Rds.s (Rds.s (Rds.s (Rds.z))))))))))).mono ?_); rintro e w1 ⟨v1, rfl, hr1, hn1⟩; replace hS := (hS.new hn1).add hr1; clear hn1 hr1)
          | (go_at_call 60; (with_reducible refine (kG2 _ (hS.rd (by first | exact Rds.z | exact Rds.s (Rds.z) | exact Rds.s (Rds.s (Rds.z)) | exact Rds.s (Rds.s (Rds.s (Rds.z))) | exact Rds.s (Rds.s (Rds.s (Rds.s (Rds.z)))) | exact Rds.s (Rds.s (Rds.s (Rds.s (Rds.s (Rds.z))))) | exact Rds.s (Rds.s (Rds.s (Rds.s (Rds.s (Rds.s (Rds.z)))))) | exact Rds.s (Rds.s (Rds.s (Rds.s (Rds.s (Rds.s (Rds.s (Rds.z))))))) | exact Rds.s (Rds.s (Rds.s (Rds.s (Rds.s (Rds.s (Rds.s (Rds.s (Rds.z))))))))))).mono ?_); rintro e w1 ⟨v1, rfl, hr1, hn1⟩; replace hS := (hS.new hn1).add hr1; clear hn1 hr1)
          | (go_at_call 60; (with_reducible refine (kG _ _ (hS.rd (by first | exact Rds.z | exact Rds.s (Rds.z) | exact Rds.s (Rds.s (Rds.z)) | exact Rds.s (Rds.s (Rds.s (Rds.z))) | exact Rds.s (Rds.s (Rds.s (Rds.s (Rds.z)))) | exact Rds.s (Rds.s (Rds.s (Rds.s (Rds.s (Rds.z))))) | exact Rds.s (Rds.s (Rds.s (Rds.s (Rds.s (Rds.s (Rds.z)))))) | exact Rds.s (Rds.s (Rds.s (Rds.s (Rds.s (Rds.s (Rds.s (Rds.z))))))) | exact Rds.s (Rds.s (Rds.s (Rds.s (Rds.s (Rds.s (Rds.s (Rds.s (Rds.z))))))))))).mono ?_); rintro e w1 ⟨v1, rfl, hr1, hn1⟩; replace hS := (hS.new hn1).add hr1; clear hn1 hr1)
          | (go_at_call 67; (with_reducible refine (kS _ _ _ (hS.rd (by first | exact Rds.z | exact Rds.s (Rds.z) | exact Rds.s (Rds.s (Rds.z)) | exact Rds.s (Rds.s (Rds.s (Rds.z))) | exact Rds.s (Rds.s (Rds.s (Rds.s (Rds.z)))) | exact Rds.s (Rds.s (Rds.s (Rds.s (Rds.s (Rds.z))))) | exact Rds.s (Rds.s (Rds.s (Rds.s (Rds.s (Rds.s (Rds.z)))))) | exact Rds.s (Rds.s (Rds.s (Rds.s (Rds.s (Rds.s (Rds.s (Rds.z))))))) | exact Rds.s (Rds.s (Rds.s (Rds.s (Rds.s (Rds.s (Rds.s (Rds.s (Rds.z)))))))))) (hS.rd (by first | exact Rds.z | exact Rds.s (Rds.z) | exact Rds.s (Rds.s (Rds.z)) | exact Rds.s (Rds.s (Rds.s (Rds.z))) | exact Rds.s (Rds.s (Rds.s (Rds.s (Rds.z)))) | exact Rds.s (Rds.s (Rds.s (Rds.s (Rds.s (Rds.z))))) | exact Rds.s (Rds.s (Rds.s (Rds.s (Rds.s (Rds.s (Rds.z)))))) | exact Rds.s (Rds.s (Rds.s (Rds.s (Rds.s (Rds.s (Rds.s (Rds.z))))))) | exact Rds.s (Rds.s (Rds.s (Rds.s (Rds.s (Rds.s (Rds.s (Rds.s (Rds.z))))))))))).mono ?_); rintro e w1 ⟨rfl, hn1⟩; replace hS := hS.new hn1; clear hn1)
          | (go_at_call 66; (with_reducible refine (kB _ _ _ (hS.rd (by first | exact Rds.z | exact Rds.s (Rds.z) | exact Rds.s (Rds.s (Rds.z)) | exact Rds.s (Rds.s (Rds.s (Rds.z))) | exact Rds.s (Rds.s (Rds.s (Rds.s (Rds.z)))) | exact Rds.s (Rds.s (Rds.s (Rds.s (Rds.s (Rds.z))))) | exact Rds.s (Rds.s (Rds.s (Rds.s (Rds.s (Rds.s (Rds.z)))))) | exact Rds.s (Rds.s (Rds.s (Rds.s (Rds.s (Rds.s (Rds.s (Rds.z))))))) | exact Rds.s (Rds.s (Rds.s (Rds.s (Rds.s (Rds.s (Rds.s (Rds.s (Rds.z)))))))))) (hS.rd (by first | exact Rds.z | exact Rds.s (Rds.z) | exact Rds.s (Rds.s (Rds.z)) | exact Rds.s (Rds.s (Rds.s (Rds.z))) | exact Rds.s (Rds.s (Rds.s (Rds.s (Rds.z)))) | exact Rds.s (Rds.s (Rds.s (Rds.s (Rds.s (Rds.z))))) | exact Rds.s (Rds.s (Rds.s (Rds.s (Rds.s (Rds.s (Rds.z)))))) | exact Rds.s (Rds.s (Rds.s (Rds.s (Rds.s (Rds.s (Rds.s (Rds.z))))))) | exact Rds.s (Rds.s (Rds.s (Rds.s (Rds.s (Rds.s (Rds.s (Rds.s (Rds.z))))))))))).mono ?_); rintro e w1 ⟨rfl, hn1⟩; replace hS := hS.new hn1; clear hn1))
        go_ret
        exact ⟨rfl, hS.nw⟩
      · replace ho := b_false ho
        obtain ⟨y1, y2⟩ := back_no ho
        obtain ⟨eG, hEG⟩ : ∃ y, getE b = y := ⟨_, rfl⟩
        rw [hEG] at y1 y2
        have kG2 : ∀ w', Rd w' 1 (.slice bo m cap2) (cellsB b) → Calls Try.prog 60 #[.slice bo m cap2] w' fun e w2 => ∃ v, e = .returned (.tuple #[v, .int .i64 eG]) ∧ Rd w2 2 v (cellsI []) ∧ New w' w2 := fun w' h => by
          have := Get_any _ _ w' h hb
          unfold GetR at this
          rwa [hEG, ho] at this
        have kP2 : ∀ v w', Rd w' 2 v (cellsI []) → Calls Try.prog 58 #[v] w' fun e w2 => ∃ v, e = .returned (.tuple #[v, .int .i64 290]) ∧ New w' w2 := fun v w' h =>
          (Put_any v [] w' h (fun _ h => (List.not_mem_nil h).elim)).mono fun e w2 ⟨v2, q1, q2, q3⟩ => ⟨v2, q1, q3⟩
        clear hEG ho hc hg hb HL HM
        go_enter Try.func12, Try.ntmps12
        go_wp2_with (first
          | (go_at_call 69; (with_reducible refine (kC _ (hS.rd (by first | exact Rds.z | exact Rds.s (Rds.z) | exact Rds.s (Rds.s (Rds.z)) | exact Rds.s (Rds.s (Rds.s (Rds.z))) | exact Rds.s (Rds.s (Rds.s (Rds.s (Rds.z)))) | exact Rds.s (Rds.s (Rds.s (Rds.s (Rds.s (Rds.z))))) | exact Rds.s (Rds.s (Rds.s (Rds.s (Rds.s (Rds.s (Rds.z)))))) | exact Rds.s (Rds.s (Rds.s (Rds.s (Rds.s (Rds.s (Rds.s (Rds.z))))))) | exact Rds.s (Rds.s (Rds.s (Rds.s (Rds.s (Rds.s (Rds.s (Rds.s (Rds.z))))))))))).mono ?_); rintro e w1 ⟨rfl, hn1⟩; replace hS := hS.new hn1; clear hn1)
          | (go_at_call 57; (with_reducible refine (heads_any _).mono ?_); rintro e w1 ⟨rfl, hn1⟩; replace hS := hS.new hn1; clear hn1)
          | (go_at_call 58; (with_reducible refine (kP _ (hS.rd (by first | exact Rds.z | exact Rds.s (Rds.z) | exact Rds.s (Rds.s (Rds.z)) | exact Rds.s (Rds.s (Rds.s (Rds.z))) | exact Rds.s (Rds.s (Rds.s (Rds.s (Rds.z)))) | exact Rds.s (Rds.s (Rds.s (Rds.s (Rds.s (Rds.z))))) | exact Rds.s (Rds.s (Rds.s (Rds.s (Rds.s (Rds.s (Rds.z)))))) | exact Rds.s (Rds.s (Rds.s (Rds.s (Rds.s (Rds.s (Rds.s (Rds.z))))))) | exact Rds.s (Rds.s (Rds.s (Rds.s (Rds.s (Rds.s (Rds.s (Rds.s (Rds.z))))))))))).mono ?_); rintro e w1 ⟨a1, c1, rfl, hr1, hn1⟩; replace hS := (hS.new hn1).add hr1; clear hn1 hr1)
          | (go_at_call 58; (with_reducible refine (kP2 _ _ (hS.rd (by first | exact Rds.z | exact Rds.s (Rds.z) | exact Rds.s (Rds.s (Rds.z)) | exact Rds.s (Rds.s (Rds.s (Rds.z))) | exact Rds.s (Rds.s (Rds.s (Rds.s (Rds.z)))) | exact Rds.s (Rds.s (Rds.s (Rds.s (Rds.s (Rds.z))))) | exact Rds.s (Rds.s (Rds.s (Rds.s (Rds.s (Rds.s (Rds.z)))))) | exact Rds.s (Rds.s (Rds.s (Rds.s (Rds.s (Rds.s (Rds.s (Rds.z))))))) | exact Rds.s (Rds.s (Rds.s (Rds.s (Rds.s (Rds.s (Rds.s (Rds.s (Rds.z))))))))))).mono ?_); rintro e w1 ⟨v1, rfl, hn1⟩; replace hS := hS.new hn1; clear hn1)
          | (go_at_call 60; (with_reducible refine (kG2 _ (hS.rd (by first | exact Rds.z | exact Rds.s (Rds.z) | exact Rds.s (Rds.s (Rds.z)) | exact Rds.s (Rds.s (Rds.s (Rds.z))) | exact Rds.s (Rds.s (Rds.s (Rds.s (Rds.z)))) | exact Rds.s (Rds.s (Rds.s (Rds.s (Rds.s (Rds.z))))) | exact Rds.s (Rds.s (Rds.s (Rds.s (Rds.s (Rds.s (Rds.z)))))) | exact Rds.s (Rds.s (Rds.s (Rds.s (Rds.s (Rds.s (Rds.s (Rds.z))))))) | exact Rds.s (Rds.s (Rds.s (Rds.s (Rds.s (Rds.s (Rds.s (Rds.s (Rds.z))))))))))).mono ?_); rintro e w1 ⟨v1, rfl, hr1, hn1⟩; replace hS := (hS.new hn1).add hr1; clear hn1 hr1)
          | (go_at_call 60; (with_reducible refine (kG _ _ (hS.rd (by first | exact Rds.z | exact Rds.s (Rds.z) | exact Rds.s (Rds.s (Rds.z)) | exact Rds.s (Rds.s (Rds.s (Rds.z))) | exact Rds.s (Rds.s (Rds.s (Rds.s (Rds.z)))) | exact Rds.s (Rds.s (Rds.s (Rds.s (Rds.s (Rds.z))))) | exact Rds.s (Rds.s (Rds.s (Rds.s (Rds.s (Rds.s (Rds.z)))))) | exact Rds.s (Rds.s (Rds.s (Rds.s (Rds.s (Rds.s (Rds.s (Rds.z))))))) | exact Rds.s (Rds.s (Rds.s (Rds.s (Rds.s (Rds.s (Rds.s (Rds.s (Rds.z))))))))))).mono ?_); rintro e w1 ⟨v1, rfl, hr1, hn1⟩; replace hS := (hS.new hn1).add hr1; clear hn1 hr1)
          | (go_at_call 67; (with_reducible refine (kS _ _ _ (hS.rd (by first | exact Rds.z | exact Rds.s (Rds.z) | exact Rds.s (Rds.s (Rds.z)) | exact Rds.s (Rds.s (Rds.s (Rds.z))) | exact Rds.s (Rds.s (Rds.s (Rds.s (Rds.z)))) | exact Rds.s (Rds.s (Rds.s (Rds.s (Rds.s (Rds.z))))) | exact Rds.s (Rds.s (Rds.s (Rds.s (Rds.s (Rds.s (Rds.z)))))) | exact Rds.s (Rds.s (Rds.s (Rds.s (Rds.s (Rds.s (Rds.s (Rds.z))))))) | exact Rds.s (Rds.s (Rds.s (Rds.s (Rds.s (Rds.s (Rds.s (Rds.s (Rds.z)))))))))) (hS.rd (by first | exact Rds.z | exact Rds.s (Rds.z) | exact Rds.s (Rds.s (Rds.z)) | exact Rds.s (Rds.s (Rds.s (Rds.z))) | exact Rds.s (Rds.s (Rds.s (Rds.s (Rds.z)))) | exact Rds.s (Rds.s (Rds.s (Rds.s (Rds.s (Rds.z))))) | exact Rds.s (Rds.s (Rds.s (Rds.s (Rds.s (Rds.s (Rds.z)))))) | exact Rds.s (Rds.s (Rds.s (Rds.s (Rds.s (Rds.s (Rds.s (Rds.z))))))) | exact Rds.s (Rds.s (Rds.s (Rds.s (Rds.s (Rds.s (Rds.s (Rds.s (Rds.z))))))))))).mono ?_); rintro e w1 ⟨rfl, hn1⟩; replace hS := hS.new hn1; clear hn1))
        go_ret
        exact ⟨rfl, hS.nw⟩
  · replace hc := b_false hc
    have kC : ∀ w', Rd w' 2 (.slice ao n cap) (cellsI l) → Calls Try.prog 69 #[.slice ao n cap] w' fun e w2 => e = .returned (.bool false) ∧ New w' w2 := fun w' h => by
      have := RCheck_any _ l w' h hg
      rwa [hc] at this
    clear hc hg hb HL HM
    go_enter Try.func12, Try.ntmps12
    go_wp2_with (first
      | (go_at_call 69; (with_reducible refine (kC _ (hS.rd (by first | exact Rds.z | exact Rds.s (Rds.z) | exact Rds.s (Rds.s (Rds.z)) | exact Rds.s (Rds.s (Rds.s (Rds.z))) | exact Rds.s (Rds.s (Rds.s (Rds.s (Rds.z)))) | exact Rds.s (Rds.s (Rds.s (Rds.s (Rds.s (Rds.z))))) | exact Rds.s (Rds.s (Rds.s (Rds.s (Rds.s (Rds.s (Rds.z)))))) | exact Rds.s (Rds.s (Rds.s (Rds.s (Rds.s (Rds.s (Rds.s (Rds.z))))))) | exact Rds.s (Rds.s (Rds.s (Rds.s (Rds.s (Rds.s (Rds.s (Rds.s (Rds.z))))))))))).mono ?_); rintro e w1 ⟨rfl, hn1⟩; replace hS := hS.new hn1; clear hn1)
      | (go_at_call 57; (with_reducible refine (heads_any _).mono ?_); rintro e w1 ⟨rfl, hn1⟩; replace hS := hS.new hn1; clear hn1))
    go_ret
    exact ⟨rfl, hS.nw⟩
end Go.Proofs.Ythpodinbbmgfoaa
