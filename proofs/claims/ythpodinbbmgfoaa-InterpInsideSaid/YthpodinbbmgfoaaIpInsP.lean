/-
  A program that may be stays within itself. No walk here.
-/
import Derived.Test.YthpodinbbmgfoaaIpRun
set_option linter.unusedVariables false
set_option linter.unusedSimpArgs false
namespace Go.Proofs.Ip
open Go Go.RowKit Go.Proofs.Pt Go.Proofs.Pg Go.Proofs.Cd
/-- A thread within a program. -/
structure Inn (l : List Inst) (t : Th) : Prop where
  lo : 0 ≤ t.pc
  hi : t.pc < l.length
  S : t.S.length ≤ 32
  C : t.C.length ≤ 16
  calls : ∀ c ∈ t.C, 0 ≤ c ∧ c < l.length
theorem moveF_err {op : Int} {arg : Nat} {t : Th} (h : (moveF op arg t).2 ≠ 0) : (moveF op arg t).1 = t := by
  revert h
  unfold moveF
  split
  · intro _; rfl
  split
  · intro _; rfl
  split
  · split
    · intro _; rfl
    · intro h; exact absurd rfl h
  split
  · split
    · intro _; rfl
    · intro h; exact absurd rfl h
  · intro h; exact absurd rfl h
/-- An instruction that is not done changes nothing. -/
theorem doF_err {l : List Inst} {t : Th} {b : Nat → Bool} {q : Nat → Nat → Nat} (h : (doF l t b q).2.2 ≠ 0) : (doF l t b q).1 = t ∧ (doF l t b q).2.1 = q := by
  revert h
  unfold doF
  split
  · dsimp only
    split
    · intro h; exact ⟨moveF_err h, rfl⟩
    · intro h
      rw [restF_err _ _ _ _ _ h]
      exact ⟨rfl, rfl⟩
  · intro _; exact ⟨rfl, rfl⟩
theorem leftL_len {op : Int} {arg : Nat} {S ws : List Nat} {b : Nat → Bool} {q : Nat → Nat → Nat} (h0 : 0 ≤ op) (h37 : op ≤ 37) (hmv : isMove op = false) (he : leftE op arg S ws b = 0) : ((leftL op arg S ws b q).length : Int) = (argsP op).2 := by
  have hop : op = 1 ∨ op = 2 ∨ op = 3 ∨ op = 4 ∨ op = 5 ∨ op = 6 ∨ op = 7 ∨ op = 8 ∨ op = 9 ∨ op = 10 ∨ op = 11 ∨ op = 12 ∨ op = 13 ∨ op = 14 ∨ op = 15 ∨ op = 16 ∨ op = 17 ∨ op = 18 ∨ op = 19 ∨ op = 21 ∨ op = 24 ∨ op = 25 ∨ op = 26 ∨ op = 27 ∨ op = 28 ∨ op = 29 ∨ op = 30 ∨ op = 31 ∨ op = 32 ∨ op = 33 ∨ op = 34 ∨ op = 35 ∨ op = 36 := by
    have hm : op ≠ 0 ∧ op ≠ 20 ∧ op ≠ 22 ∧ op ≠ 23 ∧ op ≠ 37 := by
      unfold isMove at hmv
      simp only [Bool.or_eq_false_iff, beq_eq_false_iff_ne] at hmv
      exact ⟨hmv.1.1.1.1, hmv.1.1.1.2, hmv.1.1.2, hmv.1.2, hmv.2⟩
    omega
  rcases hop with rfl | rfl | rfl | rfl | rfl | rfl | rfl | rfl | rfl | rfl | rfl | rfl | rfl | rfl | rfl | rfl | rfl | rfl | rfl | rfl | rfl | rfl | rfl | rfl | rfl | rfl | rfl | rfl | rfl | rfl | rfl | rfl | rfl
  · have a : (argsP 1).2 = 1 := by decide
    rw [a]
    unfold leftL; simp [isOne]
  · have a : (argsP 2).2 = 0 := by decide
    rw [a]
    unfold leftL; simp [isOne]
  · have a : (argsP 3).2 = 2 := by decide
    rw [a]
    unfold leftL; simp [isOne]
  · have a : (argsP 4).2 = 2 := by decide
    rw [a]
    unfold leftL; simp [isOne]
  · have a : (argsP 5).2 = 1 := by decide
    rw [a]
    unfold leftE at he
    have hl : ¬ S.length ≤ arg := fun h => by simp [h] at he
    unfold leftL; simp [hl]
  · have a : (argsP 6).2 = 1 := by decide
    rw [a]
    unfold leftL; simp [isOne]
  · have a : (argsP 7).2 = 1 := by decide
    rw [a]
    unfold leftL; simp [isOne]
  · have a : (argsP 8).2 = 1 := by decide
    rw [a]
    unfold leftL; simp [isOne]
  · have a : (argsP 9).2 = 1 := by decide
    rw [a]
    unfold leftE at he
    have hl : ¬ ws.getD 1 0 = 0 := fun h => by rw [h] at he; simp at he
    unfold leftL
    simp only [List.getD_eq_getElem?_getD] at hl
    simp [hl, isOne]
  · have a : (argsP 10).2 = 1 := by decide
    rw [a]
    unfold leftE at he
    have hl : ¬ ws.getD 1 0 = 0 := fun h => by rw [h] at he; simp at he
    unfold leftL
    simp only [List.getD_eq_getElem?_getD] at hl
    simp [hl, isOne]
  · have a : (argsP 11).2 = 1 := by decide
    rw [a]
    unfold leftL; simp [isOne]
  · have a : (argsP 12).2 = 1 := by decide
    rw [a]
    unfold leftL; simp [isOne]
  · have a : (argsP 13).2 = 1 := by decide
    rw [a]
    unfold leftL; simp [isOne]
  · have a : (argsP 14).2 = 1 := by decide
    rw [a]
    unfold leftL; simp [isOne]
  · have a : (argsP 15).2 = 1 := by decide
    rw [a]
    unfold leftL; simp [isOne]
  · have a : (argsP 16).2 = 1 := by decide
    rw [a]
    unfold leftL; simp [isOne]
  · have a : (argsP 17).2 = 1 := by decide
    rw [a]
    unfold leftL; simp [isOne]
  · have a : (argsP 18).2 = 1 := by decide
    rw [a]
    unfold leftL; simp [isOne]
  · have a : (argsP 19).2 = 1 := by decide
    rw [a]
    unfold leftL; simp [isOne]
  · have a : (argsP 21).2 = 0 := by decide
    rw [a]
    unfold leftL; simp [isOne]
  · have a : (argsP 24).2 = 1 := by decide
    rw [a]
    unfold leftL; simp [isOne]
  · have a : (argsP 25).2 = 0 := by decide
    rw [a]
    unfold leftL; simp [isOne]
  · have a : (argsP 26).2 = 1 := by decide
    rw [a]
    unfold leftL; simp [isOne]
  · have a : (argsP 27).2 = 1 := by decide
    rw [a]
    unfold leftL; simp [isOne]
  · have a : (argsP 28).2 = 1 := by decide
    rw [a]
    unfold leftL; simp [isOne]
  · have a : (argsP 29).2 = 1 := by decide
    rw [a]
    unfold leftL; simp [isOne]
  · have a : (argsP 30).2 = 1 := by decide
    rw [a]
    unfold leftL; simp [isOne]
  · have a : (argsP 31).2 = 1 := by decide
    rw [a]
    unfold leftL; simp [isOne]
  · have a : (argsP 32).2 = 1 := by decide
    rw [a]
    unfold leftL; simp [isOne]
  · have a : (argsP 33).2 = 1 := by decide
    rw [a]
    unfold leftL; simp [isOne]
  · have a : (argsP 34).2 = 1 := by decide
    rw [a]
    unfold leftL; simp [isOne]
  · have a : (argsP 35).2 = 1 := by decide
    rw [a]
    unfold leftL; simp [isOne]
  · have a : (argsP 36).2 = 1 := by decide
    rw [a]
    unfold leftL; simp [isOne]
theorem bel_n (l : List Inst) {op : Int} (h : op = 20 ∨ op = 21 ∨ op = 22) : bel op l.length = l.length := by
  unfold bel
  rw [if_neg (by omega), if_pos h]
theorem last_end {l : List Inst} (h : Cd.chk l = true) {k : Nat} (hk : k < l.length) {op : Int} {arg : Nat} (hx : l[k] = (op, arg)) (ho : op ≠ 0 ∧ op ≠ 20 ∧ op ≠ 23) : k + 1 < l.length := by
  rcases Nat.lt_or_ge (k + 1) l.length with g | g
  · exact g
  · exfalso
    have hkl : k = l.length - 1 := by omega
    unfold Cd.chk at h
    simp only [Bool.and_eq_true] at h
    have h3 := h.1.2
    rw [List.getD_eq_getElem?_getD, ← hkl, List.getElem?_eq_getElem hk, hx] at h3
    unfold isEnd at h3
    simp only [Option.getD_some, Bool.or_eq_true, beq_iff_eq] at h3
    omega
/-- What is done stays within the program. -/
theorem doF_inn {l : List Inst} {t : Th} {b : Nat → Bool} {q : Nat → Nat → Nat} (hc : Cd.chk l = true) (hi : Inn l t) (he : (doF l t b q).2.2 = 0) :
    Inn l (doF l t b q).1 ∧ ((doF l t b q).1.S.length : Int) = t.S.length - (argsP (l.getD t.pc.toNat (1, 0)).1).1 + (argsP (l.getD t.pc.toNat (1, 0)).1).2 := by
  obtain ⟨st, pc, S, C, wk, sk, er⟩ := t
  obtain ⟨h1, h2, h3, h4, h5⟩ := hi
  simp only at h1 h2 h3 h4 h5
  obtain ⟨k, rfl⟩ : ∃ k : Nat, pc = (k : Int) := ⟨pc.toNat, by omega⟩
  have hk : k < l.length := by omega
  obtain ⟨op, arg, hx⟩ : ∃ op arg, l[k] = (op, arg) := ⟨_, _, rfl⟩
  have hgd : l.getD (k : Int).toNat (1, 0) = (op, arg) := by rw [Int.toNat_natCast, List.getD_eq_getElem?_getD, List.getElem?_eq_getElem hk, hx]; rfl
  obtain ⟨o1, o2, o3, o4⟩ := chk_ok hc hk hx
  have hin : inB l ⟨st, (k : Int), S, C, wk, sk, er⟩ = true := by
    unfold inB
    rw [hc]
    simp only [Bool.and_true, Bool.and_eq_true, decide_eq_true_eq]
    exact ⟨⟨⟨h1, h2⟩, h3⟩, h4⟩
  have hd : doF l ⟨st, (k : Int), S, C, wk, sk, er⟩ b q = (if isMove op then ((moveF op arg ⟨st, (k : Int), S, C, wk, sk, er⟩).1, q, (moveF op arg ⟨st, (k : Int), S, C, wk, sk, er⟩).2) else restF op arg ⟨st, (k : Int), S, C, wk, sk, er⟩ b q) := by
    unfold doF
    rw [if_pos hin]
    dsimp only
    rw [hgd]
  rw [hd] at he ⊢
  dsimp only
  rw [hgd]
  dsimp only
  by_cases hm : isMove op = true
  · rw [if_pos hm] at he ⊢
    dsimp only at he ⊢
    have hop : op = 0 ∨ op = 37 ∨ op = 23 ∨ op = 22 ∨ op = 20 := by
      unfold isMove at hm
      simp only [Bool.or_eq_true, beq_iff_eq] at hm
      rcases hm with (((h | h) | h) | h) | h <;> simp [h]
    rcases hop with rfl | rfl | rfl | rfl | rfl
    · exact absurd he (by unfold moveF; simp)
    · exact absurd he (by unfold moveF; simp)
    · by_cases hC : C = []
      · exact absurd he (by unfold moveF; simp [hC])
      · have e : moveF 23 arg ⟨st, (k : Int), S, C, wk, sk, er⟩ = (⟨st, C.getLastD 0, S, C.dropLast, wk, sk, er⟩, 0) := by unfold moveF; simp [hC]
        rw [e]
        have hmem : C.getLastD 0 ∈ C := by
          have := last_split hC
          rw [this]; simp
        have a1 : (argsP 23).1 = 0 := by decide
        have a2 : (argsP 23).2 = 0 := by decide
        refine ⟨⟨(h5 _ hmem).1, (h5 _ hmem).2, h3, ?_, fun c hc => h5 c (List.dropLast_subset _ hc)⟩, by rw [a1, a2]; simp⟩
        simp only [List.length_dropLast]; omega
    · by_cases hC : C.length = 16
      · exact absurd he (by unfold moveF; simp [hC])
      · have e : moveF 22 arg ⟨st, (k : Int), S, C, wk, sk, er⟩ = (⟨st, (arg : Nat), S, C ++ [(k : Int) + 1], wk, sk, er⟩, 0) := by unfold moveF; simp [hC]
        rw [e]
        rw [bel_n l (by omega)] at o3
        have hl := last_end hc hk hx (by decide)
        have a1 : (argsP 22).1 = 0 := by decide
        have a2 : (argsP 22).2 = 0 := by decide
        refine ⟨⟨by simp only; omega, by simp only; omega, h3, by simp only [List.length_append, List.length_cons, List.length_nil]; omega, fun c hc => ?_⟩, by rw [a1, a2]; simp⟩
        rcases List.mem_append.1 hc with hc | hc
        · exact h5 c hc
        · rw [List.mem_singleton.1 hc]; omega
    · have e : moveF 20 arg ⟨st, (k : Int), S, C, wk, sk, er⟩ = (⟨st, (arg : Nat), S, C, wk, sk, er⟩, 0) := by unfold moveF; simp
      rw [e]
      rw [bel_n l (by omega)] at o3
      have a1 : (argsP 20).1 = 0 := by decide
      have a2 : (argsP 20).2 = 0 := by decide
      exact ⟨⟨by simp only; omega, by simp only; omega, h3, h4, h5⟩, by rw [a1, a2]; simp⟩
  · have hm' : isMove op = false := by simpa using hm
    rw [if_neg hm] at he ⊢
    have hne : op ≠ 0 ∧ op ≠ 20 ∧ op ≠ 23 := by
      unfold isMove at hm'
      simp only [Bool.or_eq_false_iff, beq_eq_false_iff_ne] at hm'
      exact ⟨hm'.1.1.1.1, hm'.1.1.1.2, hm'.1.2⟩
    have hl := last_end hc hk hx hne
    have hnn : 0 ≤ (argsP op).1 := by
      have : ∀ k : Nat, k < 38 → 0 ≤ (argsP (k : Int)).1 := by decide
      have := this op.toNat (by omega)
      rwa [Int.toNat_of_nonneg o1] at this
    revert he
    unfold restF
    split
    · intro he; exact absurd he (by show ¬ ((300 : Int) = 0); decide)
    · rename_i hlen
      dsimp only at hlen ⊢
      split
      · rename_i he1
        intro he; exact absurd he he1
      · rename_i he1
        split
        · intro he; exact absurd he (by show ¬ ((300 : Int) = 0); decide)
        · rename_i h32
          intro _
          have he0 : leftE op arg (S.take (S.length - (argsP op).1.toNat)) (S.drop (S.length - (argsP op).1.toNat)) b = 0 := by
            apply Classical.byContradiction
            exact he1
          have hL := leftL_len (q := q) o1 o2 hm' he0
          refine ⟨⟨?_, ?_, ?_, h4, h5⟩, ?_⟩
          · dsimp only; split <;> omega
          · dsimp only
            split
            · rename_i h21
              rw [bel_n l (by omega)] at o3
              omega
            · omega
          · simp only [List.length_append, List.length_take]; omega
          · simp only [List.length_append, List.length_take]; omega
end Go.Proofs.Ip
