/-
  Plain laws of pages: what is stored is loaded, what is taken is zero, how many are taken. No program in sight.
-/
import Derived.Test.YthpodinbbmgfoaaPgBase
namespace Go.Proofs.Pg
theorem loadV_store {b : Nat → Bool} {q : Nat → Nat → Nat} {x v : Nat} (h : okAt b x = true) : loadV b (storeQ b q x v) x = v := by
  unfold loadV storeQ; rw [h]; simp [updw]
theorem loadV_other {b : Nat → Bool} {q : Nat → Nat → Nat} {x y v : Nat} (h : x ≠ y) : loadV b (storeQ b q x v) y = loadV b q y := by
  unfold loadV storeQ
  by_cases hx : okAt b x = true
  · rw [hx]
    by_cases hy : okAt b y = true
    · rw [hy]; simp only [if_true, updw]
      rw [if_neg (by omega)]
    · simp [hy]
  · simp [hx]
theorem storeQ_no {b : Nat → Bool} {q : Nat → Nat → Nat} {x v : Nat} (h : okAt b x = false) : storeQ b q x v = q := by unfold storeQ; rw [h]; rfl
theorem cntTo_upd {b : Nat → Bool} {n : Nat} (h : b n = false) : ∀ k, cntTo (upd b n true) k = cntTo b k + if n < k then 1 else 0
  | 0 => by simp [cntTo]
  | k + 1 => by
    have := cntTo_upd h k
    unfold cntTo
    rw [this]
    by_cases e : k = n
    · subst e; simp [upd, h]
    · have : upd b n true k = b k := by simp [upd, e]
      rw [this]
      by_cases h1 : n < k
      · have e1 : (if n < k then (1 : Nat) else 0) = 1 := if_pos h1
        have e2 : (if n < k + 1 then (1 : Nat) else 0) = 1 := if_pos (by omega)
        rw [e1, e2]; omega
      · have e1 : (if n < k then (1 : Nat) else 0) = 0 := if_neg h1
        have e2 : (if n < k + 1 then (1 : Nat) else 0) = 0 := if_neg (by omega)
        rw [e1, e2]; omega
theorem cnt_take {b : Nat → Bool} (h : ff b < 16) : cnt (takeB b) = cnt b + 1 := by
  unfold takeB cnt
  rw [if_neg (by omega), cntTo_upd (ff_at h), if_pos h]
theorem cntTo_full {b : Nat → Bool} (h : ∀ j, j < 16 → b j = true) : ∀ k, k ≤ 16 → cntTo b k = k
  | 0, _ => rfl
  | k + 1, hk => by unfold cntTo; rw [cntTo_full h k (by omega), h k (by omega)]; rfl
theorem cnt_full {b : Nat → Bool} (h : ff b = 16) : cnt b = 16 := cntTo_full (fun j hj => ff_before (by omega)) 16 (Nat.le_refl _)
theorem load_taken {b : Nat → Bool} {q : Nat → Nat → Nat} (h : ff b < 16) {k : Nat} (hk : k < 8) : loadV (takeB b) (takeQ b q) (8 * ff b + k) = 0 ∧ loadE (takeB b) (8 * ff b + k) = 0 := by
  have hd : (8 * ff b + k) / 8 = ff b := by omega
  have hok : okAt (takeB b) (8 * ff b + k) = true := by
    unfold okAt takeB; rw [hd, if_neg (by omega)]; simp [upd]; omega
  unfold loadV loadE
  rw [hok, hd]
  simp only [if_true]
  unfold takeQ; rw [if_neg (by omega)]; simp [upd, zeros8]
theorem chk_store {b : Nat → Bool} {q : Nat → Nat → Nat} {x v : Nat} (h : chk b q = true) : chk b (storeQ b q x v) = true := by
  rw [chk_iff] at *
  intro j hj
  have := h j hj
  unfold storeQ
  by_cases hx : okAt b x = true
  · rw [hx]; simp only [if_true]
    by_cases e : j = x / 8
    · have hb : b j = true := by
        unfold okAt at hx
        simp only [Bool.and_eq_true, decide_eq_true_eq] at hx
        rw [e]; exact hx.2
      unfold bad1; rw [hb]; rfl
    · have : updw q (x / 8) (x % 8) v j = q j := by funext k; unfold updw; rw [if_neg (by omega)]
      unfold bad1 at *; rw [this]; assumption
  · simp only [hx, Bool.false_eq_true, if_false]; exact this
theorem chk_take {b : Nat → Bool} {q : Nat → Nat → Nat} (h : chk b q = true) : chk (takeB b) (takeQ b q) = true := by
  rw [chk_iff] at *
  intro j hj
  have := h j hj
  unfold takeB takeQ
  by_cases hf : ff b = 16
  · rw [if_pos hf, if_pos hf]; exact this
  · rw [if_neg hf, if_neg hf]
    unfold bad1 upd at *
    by_cases e : j = ff b
    · simp [e]
    · simp only [e, if_false]; exact this

/-! For PageAll. -/
theorem cntTo_congr {b b' : Nat → Bool} : ∀ k, (∀ j, j < k → b j = b' j) → cntTo b k = cntTo b' k
  | 0, _ => rfl
  | k + 1, h => by unfold cntTo; rw [cntTo_congr k (fun j hj => h j (by omega)), h k (by omega)]
theorem cntTo_lt {b : Nat → Bool} {n : Nat} (h : b n = false) : ∀ k, n < k → cntTo b k < k
  | 0, hk => by omega
  | k + 1, hk => by
    unfold cntTo
    by_cases e : n = k
    · subst e; have := cntTo_le b n; rw [h]; simp; omega
    · have := cntTo_lt h k (by omega); split <;> omega
theorem ff_of_cnt {b : Nat → Bool} (h : cnt b = 16) : ff b = 16 := by
  have := ff_le b
  rcases Nat.lt_or_ge (ff b) 16 with g | g
  · have := cntTo_lt (ff_at g) 16 g
    unfold cnt at h; omega
  · omega
theorem ff_of_cnt_lt {b : Nat → Bool} (h : cnt b < 16) : ff b < 16 := by
  have := ff_le b
  rcases Nat.lt_or_ge (ff b) 16 with g | g
  · exact g
  · have := cnt_full (b := b) (by omega); omega
theorem freeE_iff (b : Nat → Bool) (n : Int) : freeE b n = 0 ↔ freeOk b n = true := by
  unfold freeE freeOk
  by_cases h : n < 0 ∨ 16 ≤ n
  · rw [if_pos h]
    rcases h with h | h <;> simp <;> omega
  · rw [if_neg h]
    have h1 : 0 ≤ n := by omega
    have h2 : n < 16 := by omega
    by_cases hb : b n.toNat = true
    · simp [hb, h1, h2]
    · simp [hb]
theorem cnt_free {b : Nat → Bool} {n : Int} (h : freeOk b n = true) : cnt b = cnt (freeB b n) + 1 := by
  have h' := h
  unfold freeOk at h'
  simp only [Bool.and_eq_true, decide_eq_true_eq] at h'
  obtain ⟨⟨h1, h2⟩, h3⟩ := h'
  have hl : n.toNat < 16 := by omega
  have hf : freeB b n n.toNat = false := by unfold freeB; rw [if_pos h]; simp [upd]
  have e := cntTo_upd hf 16
  rw [if_pos hl] at e
  unfold cnt
  rw [← e]
  apply cntTo_congr
  intro j hj
  unfold freeB; rw [if_pos h]
  unfold upd
  by_cases ej : j = n.toNat
  · subst ej; simp [h3]
  · simp [ej]
theorem freeB_no {b : Nat → Bool} {q : Nat → Nat → Nat} {n : Int} (h : freeOk b n = false) : freeB b n = b ∧ freeQ b q n = q := by
  unfold freeB freeQ; rw [h]; simp
/-- The first k pages are taken, and no other. -/
def firstK (b : Nat → Bool) (k : Nat) : Prop := ∀ j, j < 16 → b j = decide (j < k)
theorem firstK_zero : firstK noBusy 0 := fun j _ => by simp [noBusy]
theorem firstK_ff {b : Nat → Bool} {k : Nat} (h : firstK b k) (hk : k < 16) : ff b = k :=
  ff_eq hk (by rw [h k hk]; simp) fun j hj => by rw [h j (by omega)]; simp [hj]
theorem firstK_take {b : Nat → Bool} {k : Nat} (h : firstK b k) (hk : k < 16) : firstK (takeB b) (k + 1) ∧ takeN b = k ∧ takeE b = 0 := by
  have hf := firstK_ff h hk
  unfold takeB takeN takeE
  rw [hf, if_neg (by omega), if_neg (by omega), if_neg (by omega)]
  refine ⟨fun j hj => ?_, rfl, rfl⟩
  unfold upd
  by_cases e : j = k
  · subst e; simp
  · rw [if_neg e, h j hj, decide_eq_decide]; omega
theorem firstK_all {b : Nat → Bool} (h : firstK b 16) : ff b = 16 := ff_none fun j hj => by rw [h j hj]; simp [hj]
theorem take_full {b : Nat → Bool} {q : Nat → Nat → Nat} (h : ff b = 16) : takeB b = b ∧ takeQ b q = q ∧ takeN b = 0 ∧ takeE b = 4 := by
  unfold takeB takeQ takeN takeE; rw [h]; simp
end Go.Proofs.Pg
