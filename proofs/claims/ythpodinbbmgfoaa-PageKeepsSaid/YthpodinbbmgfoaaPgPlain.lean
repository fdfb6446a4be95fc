/-
  Plain laws of pages: what is stored is loaded, what is taken is zero, how many are taken. No program in sight.
-/
import Derived.Test.YthpodinbbmgfoaaPgBase
namespace Go.Proofs.Pg
theorem loadV_store {b : Nat → Bool} {q : Nat → Nat → Nat} {x v : Nat} (h : okAt b x = true) : loadV b (storeQ b q x v) x = v := by
  unfold loadV storeQ; rw [h]; simp [updw]
theorem loadV_other {b : Nat → Bool} {q : Nat → Nat → Nat} {x y v : Nat} (h : x ≠ y) : loadV b (storeQ b q x v) y = loadV b q y := by
  unfold loadV storeQ
  by_cases hx : okAt b x = true
  · rw [hx]
    by_cases hy : okAt b y = true
    · rw [hy]; simp only [if_true, updw]
      rw [if_neg (by omega)]
    · simp [hy]
  · simp [hx]
theorem storeQ_no {b : Nat → Bool} {q : Nat → Nat → Nat} {x v : Nat} (h : okAt b x = false) : storeQ b q x v = q := by unfold storeQ; rw [h]; rfl
theorem cntTo_upd {b : Nat → Bool} {n : Nat} (h : b n = false) : ∀ k, cntTo (upd b n true) k = cntTo b k + if n < k then 1 else 0
  | 0 => by simp [cntTo]
  | k + 1 => by
    have := cntTo_upd h k
    unfold cntTo
    rw [this]
    by_cases e : k = n
    · subst e; simp [upd, h]
    · have : upd b n true k = b k := by simp [upd, e]
      rw [this]
      by_cases h1 : n < k
      · have e1 : (if n < k then (1 : Nat) else 0) = 1 := if_pos h1
        have e2 : (if n < k + 1 then (1 : Nat) else 0) = 1 := if_pos (by omega)
        rw [e1, e2]; omega
      · have e1 : (if n < k then (1 : Nat) else 0) = 0 := if_neg h1
        have e2 : (if n < k + 1 then (1 : Nat) else 0) = 0 := if_neg (by omega)
        rw [e1, e2]; omega
theorem cnt_take {b : Nat → Bool} (h : ff b < 16) : cnt (takeB b) = cnt b + 1 := by
  unfold takeB cnt
  rw [if_neg (by omega), cntTo_upd (ff_at h), if_pos h]
theorem cntTo_full {b : Nat → Bool} (h : ∀ j, j < 16 → b j = true) : ∀ k, k ≤ 16 → cntTo b k = k
  | 0, _ => rfl
  | k + 1, hk => by unfold cntTo; rw [cntTo_full h k (by omega), h k (by omega)]; rfl
theorem cnt_full {b : Nat → Bool} (h : ff b = 16) : cnt b = 16 := cntTo_full (fun j hj => ff_before (by omega)) 16 (Nat.le_refl _)
theorem load_taken {b : Nat → Bool} {q : Nat → Nat → Nat} (h : ff b < 16) {k : Nat} (hk : k < 8) : loadV (takeB b) (takeQ b q) (8 * ff b + k) = 0 ∧ loadE (takeB b) (8 * ff b + k) = 0 := by
  have hd : (8 * ff b + k) / 8 = ff b := by omega
  have hok : okAt (takeB b) (8 * ff b + k) = true := by
    unfold okAt takeB; rw [hd, if_neg (by omega)]; simp [upd]; omega
  unfold loadV loadE
  rw [hok, hd]
  simp only [if_true]
  unfold takeQ; rw [if_neg (by omega)]; simp [upd, zeros8]
theorem chk_store {b : Nat → Bool} {q : Nat → Nat → Nat} {x v : Nat} (h : chk b q = true) : chk b (storeQ b q x v) = true := by
  rw [chk_iff] at *
  intro j hj
  have := h j hj
  unfold storeQ
  by_cases hx : okAt b x = true
  · rw [hx]; simp only [if_true]
    by_cases e : j = x / 8
    · have hb : b j = true := by
        unfold okAt at hx
        simp only [Bool.and_eq_true, decide_eq_true_eq] at hx
        rw [e]; exact hx.2
      unfold bad1; rw [hb]; rfl
    · have : updw q (x / 8) (x % 8) v j = q j := by funext k; unfold updw; rw [if_neg (by omega)]
      unfold bad1 at *; rw [this]; assumption
  · simp only [hx, Bool.false_eq_true, if_false]; exact this
theorem chk_take {b : Nat → Bool} {q : Nat → Nat → Nat} (h : chk b q = true) : chk (takeB b) (takeQ b q) = true := by
  rw [chk_iff] at *
  intro j hj
  have := h j hj
  unfold takeB takeQ
  by_cases hf : ff b = 16
  · rw [if_pos hf, if_pos hf]; exact this
  · rw [if_neg hf, if_neg hf]
    unfold bad1 upd at *
    by_cases e : j = ff b
    · simp [e]
    · simp only [e, if_false]; exact this
end Go.Proofs.Pg
