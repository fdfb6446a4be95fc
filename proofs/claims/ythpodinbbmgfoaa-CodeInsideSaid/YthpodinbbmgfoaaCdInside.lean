/-
  The walk of the law CodeInside.
-/
import Derived.Test.YthpodinbbmgfoaaCdBack
set_option linter.unusedVariables false
namespace Go.Proofs.Cd
open Go
theorem chk_end' {l : List Inst} (h : chk l = true) : isEnd (l.getD (l.length - 1) (1, 0)).1 = true := by
  unfold chk at h
  simp only [Bool.and_eq_true] at h
  exact h.1.2
end Go.Proofs.Cd
namespace Go.Proofs.Ythpodinbbmgfoaa
open Go.Proofs.Cd Go.Proofs.Nm Go.RowKit
set_option maxRecDepth 100000 in
set_option maxHeartbeats 8000000 in
theorem CodeInside_any (u : Value) (l : List Inst) (w : World) (hrd : Rd w 2 u (cellsI l)) (hg : ∀ x ∈ l, goodI x) :
    Calls Try.prog 13 #[u] w fun e w' => e = .returned (.bool true) ∧ New w w' := by
  have hS := (Rds.start w).add hrd
  obtain ⟨ao, n, cap, rfl, h1, h2, h3, _, h5⟩ := hrd
  rw [len_cellsI] at h1
  have HL : Hid (l.length = n) := Lib.hid (by omega)
  have HC := Lib.hid h5; clear h5
  have hn : n ≤ 9223372036854775807 := by unfold maxLen at h3; omega
  clear h1 h2 h3
  by_cases g1 : 200 < n
  · have g1i : (200 : Int) < n := by omega
    clear hg HC HL
    go_enter Try.func13, Try.ntmps13
    go_wp2_with (first
      | (go_at_call 57; (with_reducible refine (heads_any _).mono ?_); rintro e w1 ⟨rfl, hn1⟩; replace hS := hS.new hn1; clear hn1))
    go_ret
    exact ⟨rfl, hS.nw⟩
  · have g1i : ¬ (200 : Int) < n := by omega
    by_cases hc : Cd.chk l = true
    · have kC : ∀ w', Rd w' 2 (.slice ao n cap) (cellsI l) → Calls Try.prog 68 #[.slice ao n cap] w' fun e w2 => e = .returned (.bool true) ∧ New w' w2 := fun w' h => by
        have := Check_any _ l w' h hg
        rwa [hc] at this
      obtain ⟨c1, c2, c3⟩ := chk_ops hc
      have HO := Lib.hid c3; clear c3
      have HE := Lib.hid (chk_end' hc)
      have hn0 : 0 < n := by have := HL.out; omega
      obtain ⟨b, o, rfl, hb, _⟩ := HC.out 0 (by rw [len_cellsI]; omega)
      clear hc hg c1 c2
      go_enter Try.func13, Try.ntmps13
      go_wp2_with (first
        | (go_at_call 57; (with_reducible refine (heads_any _).mono ?_); rintro e w1 ⟨rfl, hn1⟩; replace hS := hS.new hn1; clear hn1)
        | (go_at_call 68; (with_reducible refine (kC _ (hS.rd (by first | exact Rds.z | exact Rds.s (Rds.z) | exact Rds.s (Rds.s (Rds.z)) | exact Rds.s (Rds.s (Rds.s (Rds.z))) | exact Rds.s (Rds.s (Rds.s (Rds.s (Rds.z)))) | exact Rds.s (Rds.s (Rds.s (Rds.s (Rds.s (Rds.z))))) | exact Rds.s (Rds.s (Rds.s (Rds.s (Rds.s (Rds.s (Rds.z)))))) | exact Rds.s (Rds.s (Rds.s (Rds.s (Rds.s (Rds.s (Rds.s (Rds.z))))))) | exact Rds.s (Rds.s (Rds.s (Rds.s (Rds.s (Rds.s (Rds.s (Rds.s (Rds.z))))))))))).mono ?_); rintro e w1 ⟨rfl, hn1⟩; replace hS := hS.new hn1; clear hn1))
      clear kC
      go_loopw [3] (fun i wr => ∃ k : Nat, k ≤ n ∧ i = .int .i64 k ∧ Rds w wr []) (fun i _ => n - (intOf i).toNat)
      case atStart => exact ⟨0, by omega, rfl, ⟨hS.nw, fun _ h => (List.not_mem_nil h).elim⟩⟩
      case round =>
        clear hS
        obtain ⟨k, hk, rfl, hS⟩ := hrel
        rename_i wr
        by_cases hk2 : k < n
        · have hki : (k : Int) < (n : Int) := by omega
          have hkl : k < l.length := by rw [HL.out]; exact hk2
          obtain ⟨op, arg, hx⟩ : ∃ op arg, l[k] = (op, arg) := ⟨_, _, rfl⟩
          obtain ⟨b', o', e', _, hc0⟩ := HC.out (k * 2) (by rw [len_cellsI]; omega)
          cases e'
          obtain ⟨b', o', e', _, hc1⟩ := HC.out (k * 2 + 1) (by rw [len_cellsI]; omega)
          cases e'
          have m0 : wr.cell? ⟨b, o + k * 2, none⟩ = some (.int .i64 op) := by
            rw [hS.nw.cell (p := ⟨b, o + k * 2, none⟩) hb, hc0, get_op l hkl, hx]
          have m1 : wr.cell? ⟨b, o + k * 2 + 1, none⟩ = some (.int .u64 (arg : Nat)) := by
            rw [Nat.add_assoc, hS.nw.cell (p := ⟨b, o + (k * 2 + 1), none⟩) hb, hc1, get_arg l hkl, hx]
          clear hc0 hc1
          have hO := HO.out _ (List.getElem_mem hkl)
          rw [hx, HL.out] at hO
          have hE : k + 1 = n → op = 0 ∨ op = 20 ∨ op = 23 := fun e => by
            have := HE.out
            rw [HL.out, show n - 1 = k from by omega, List.getD, List.getElem?_eq_getElem hkl, hx] at this
            simpa [isEnd, or_assoc] using this
          have q1 : IntKind.i64.wrap ((k : Int) + 1) = (k : Int) + 1 := IntWalk.i64_in _ (by omega)
          have q2 : IntKind.u64.wrap (n : Int) = (n : Int) := by rw [IntKind.wrap_u64]; omega
          have hb1 : ∀ y : Int, y = 20 ∨ y = 21 ∨ y = 22 → op = y → arg < n := fun y hy e => by
            have := hO.2.2
            unfold bel at this
            simp only at this
            rw [if_neg (by omega), if_pos (by omega)] at this
            exact this
          have hO2 : Hid (0 ≤ op ∧ op ≤ 37) := Lib.hid ⟨hO.1, hO.2.1⟩
          clear hx hO
          rcases (show op = 0 ∨ op = 20 ∨ op = 23 ∨ op = 21 ∨ op = 22 ∨ (op ≠ 0 ∧ op ≠ 20 ∧ op ≠ 23 ∧ op ≠ 21 ∧ op ≠ 22) from by omega) with rfl | rfl | rfl | rfl | rfl | ⟨e1, e2, e3, e4, e5⟩
          · clear hE hb1
            go_wp2
            go_roundw
            case rel => exact ⟨k + 1, by omega, by go_num, hS⟩
            case measure => simp [intOf]; omega
          · have a1 := hb1 20 (by omega) rfl
            have a2 : ¬ (n : Int) ≤ (arg : Int) := by omega
            clear hE hb1
            go_wp2
            go_roundw
            case rel => exact ⟨k + 1, by omega, by go_num, hS⟩
            case measure => simp [intOf]; omega
          · clear hE hb1
            go_wp2
            go_roundw
            case rel => exact ⟨k + 1, by omega, by go_num, hS⟩
            case measure => simp [intOf]; omega
          · have a1 := hb1 21 (by omega) rfl
            have a2 : ¬ (n : Int) ≤ (arg : Int) := by omega
            have a3 : ¬ (n : Int) ≤ (k : Int) + 1 := by
              have : k + 1 ≠ n := fun e => by have := hE e; omega
              omega
            clear hE hb1
            go_wp2
            go_roundw
            case rel => exact ⟨k + 1, by omega, by go_num, hS⟩
            case measure => simp [intOf]; omega
          · have a1 := hb1 22 (by omega) rfl
            have a2 : ¬ (n : Int) ≤ (arg : Int) := by omega
            have a3 : ¬ (n : Int) ≤ (k : Int) + 1 := by
              have : k + 1 ≠ n := fun e => by have := hE e; omega
              omega
            clear hE hb1
            go_wp2
            go_roundw
            case rel => exact ⟨k + 1, by omega, by go_num, hS⟩
            case measure => simp [intOf]; omega
          · have a3 : ¬ (n : Int) ≤ (k : Int) + 1 := by
              have : k + 1 ≠ n := fun e => by have := hE e; omega
              omega
            have d1 : (op == 0) = false := by rw [beq_eq_false_iff_ne]; exact e1
            have d2 : (op == 20) = false := by rw [beq_eq_false_iff_ne]; exact e2
            have d3 : (op == 23) = false := by rw [beq_eq_false_iff_ne]; exact e3
            have d4 : (op == 21) = false := by rw [beq_eq_false_iff_ne]; exact e4
            have d5 : (op == 22) = false := by rw [beq_eq_false_iff_ne]; exact e5
            clear hE hb1
            go_wp2
            go_roundw
            case rel => exact ⟨k + 1, by omega, by go_num, hS⟩
            case measure => simp [intOf]; omega
        · have hkn : k = n := by omega
          have hki : ¬ (k : Int) < (n : Int) := by omega
          go_wp2_with (first
            | (go_at_call 57; (with_reducible refine (heads_any _).mono ?_); rintro e w1 ⟨rfl, hn1⟩; replace hS := hS.new hn1; clear hn1))
          go_ret
          exact ⟨rfl, hS.nw⟩
    · replace hc := b_false hc
      have kC : ∀ w', Rd w' 2 (.slice ao n cap) (cellsI l) → Calls Try.prog 68 #[.slice ao n cap] w' fun e w2 => e = .returned (.bool false) ∧ New w' w2 := fun w' h => by
        have := Check_any _ l w' h hg
        rwa [hc] at this
      clear hc hg HC HL
      go_enter Try.func13, Try.ntmps13
      go_wp2_with (first
        | (go_at_call 57; (with_reducible refine (heads_any _).mono ?_); rintro e w1 ⟨rfl, hn1⟩; replace hS := hS.new hn1; clear hn1)
        | (go_at_call 68; (with_reducible refine (kC _ (hS.rd (by first | exact Rds.z | exact Rds.s (Rds.z) | exact Rds.s (Rds.s (Rds.z)) | exact Rds.s (Rds.s (Rds.s (Rds.z))) | exact Rds.s (Rds.s (Rds.s (Rds.s (Rds.z)))) | exact Rds.s (Rds.s (Rds.s (Rds.s (Rds.s (Rds.z))))) | exact Rds.s (Rds.s (Rds.s (Rds.s (Rds.s (Rds.s (Rds.z)))))) | exact Rds.s (Rds.s (Rds.s (Rds.s (Rds.s (Rds.s (Rds.s (Rds.z))))))) | exact Rds.s (Rds.s (Rds.s (Rds.s (Rds.s (Rds.s (Rds.s (Rds.s (Rds.z))))))))))).mono ?_); rintro e w1 ⟨rfl, hn1⟩; replace hS := hS.new hn1; clear hn1))
      go_ret
      exact ⟨rfl, hS.nw⟩
end Go.Proofs.Ythpodinbbmgfoaa
