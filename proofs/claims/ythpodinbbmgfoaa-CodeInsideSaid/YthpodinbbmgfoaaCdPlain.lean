/-
  Programs as bytes, and back. No program in sight.
-/
import Derived.Test.YthpodinbbmgfoaaCdRGet
namespace Go.Proofs.Nm
open Go
theorem fromTo_digit {l : List Nat} (h : goodB l) : ∀ (k i : Nat), i < k → fromTo l k / 256 ^ i % 256 = l.getD i 0
  | 0, _, h => by omega
  | k + 1, i, hi => by
    have hx := goodB_at h k
    have hA := fromTo_lt h k
    unfold fromTo
    by_cases e : i = k
    · subst e
      rw [Nat.add_mul_div_right _ _ (Nat.pow_pos (by omega)), Nat.div_eq_of_lt hA, Nat.zero_add, Nat.mod_eq_of_lt hx]
    · have ih := fromTo_digit h k i (by omega)
      obtain ⟨d, hd⟩ : ∃ d, k = i + (d + 1) := ⟨k - i - 1, by omega⟩
      have e2 : l.getD k 0 * 256 ^ k = (l.getD k 0 * 256 ^ d * 256) * 256 ^ i := by
        rw [hd, Nat.pow_add, Nat.pow_succ]
        simp only [Nat.mul_assoc, Nat.mul_comm, Nat.mul_left_comm]
      rw [e2, Nat.add_mul_div_right _ _ (Nat.pow_pos (by omega)), Nat.add_mul_mod_self_right, ih]
theorem leB_get {n k i : Nat} (h : i < k) : (leB n k).getD i 0 = n / 256 ^ i % 256 := by
  unfold leB
  simp [List.getD, h]
theorem leB_fromB {c : List Nat} (hc : c.length = 8) (h : goodB c) : leB (fromB c) 8 = c := by
  apply List.ext_getElem
  · rw [leB_len, hc]
  · intro i h1 h2
    have e1 := leB_get (n := fromB c) (k := 8) (i := i) (by omega)
    have e2 := fromTo_digit h 8 i (by omega)
    have e3 : fromB c = fromTo c 8 := by unfold fromB; rw [hc]; rfl
    rw [List.getD, List.getElem?_eq_getElem h1] at e1
    rw [List.getD, List.getElem?_eq_getElem h2, ← e3] at e2
    exact e1.trans e2
theorem fromTo_leB (n K : Nat) : ∀ k, k ≤ K → fromTo (leB n K) k = n % 256 ^ k
  | 0, _ => by simp [fromTo, Nat.mod_one]
  | k + 1, h => by
    unfold fromTo
    rw [fromTo_leB n K k (by omega), leB_get (by omega), Nat.mod_pow_succ, Nat.mul_comm]
theorem fromB_leB {n : Nat} (h : n < 18446744073709551616) : fromB (leB n 8) = n := by
  unfold fromB
  rw [leB_len, show min 8 8 = 8 from rfl, fromTo_leB n 8 8 (by omega)]
  exact Nat.mod_eq_of_lt (by have : (256 : Nat) ^ 8 = 18446744073709551616 := by decide
                             omega)
end Go.Proofs.Nm
namespace Go.Proofs.Cd
open Go Go.Proofs.Nm
theorem putB_drop : ∀ (l : List Inst) (i : Nat), (putB l).drop (9 * i) = putB (l.drop i)
  | l, 0 => by simp
  | [], i + 1 => by simp [putB]
  | x :: l, i + 1 => by
    have e : putB (x :: l) = encB x ++ putB l := by simp [putB]
    rw [e, List.drop_append, encB_len, List.drop_eq_nil_of_le (by rw [encB_len]; omega), List.nil_append, List.drop_succ_cons, ← putB_drop l i]
    congr 1
theorem getI_putB {l : List Inst} (hg : ∀ x ∈ l, goodI x ∧ 0 ≤ x.1 ∧ x.1 < 256) {i : Nat} (hi : i < l.length) : getI (putB l) i = l[i] := by
  have h1 := putB_drop l i
  rw [List.drop_eq_getElem_cons hi] at h1
  have e : putB (l[i] :: l.drop (i + 1)) = (l[i].1 % 256).toNat :: (leB l[i].2 8 ++ putB (l.drop (i + 1))) := by
    unfold putB; rw [List.flatMap_cons]; rfl
  rw [e] at h1
  obtain ⟨⟨g1, g2, g3⟩, g4, g5⟩ := hg _ (List.getElem_mem hi)
  unfold getI
  have a1 : (putB l).getD (9 * i) 0 = (l[i].1 % 256).toNat := by
    have := congrArg (fun c => c[0]?) h1
    simp only [List.getElem?_drop, Nat.add_zero, List.getElem?_cons_zero] at this
    rw [List.getD, this]; rfl
  have a2 : (putB l).drop (9 * i + 1) = leB l[i].2 8 ++ putB (l.drop (i + 1)) := by
    have := congrArg (List.drop 1) h1
    rwa [List.drop_drop, List.drop_one, List.tail_cons] at this
  rw [a1, a2, List.take_append_of_le_length (by rw [leB_len]; omega), List.take_of_length_le (by rw [leB_len]; omega), fromB_leB g3]
  apply Prod.ext
  · simp only; omega
  · rfl
theorem getL_putB {l : List Inst} (hg : ∀ x ∈ l, goodI x ∧ 0 ≤ x.1 ∧ x.1 < 256) : getL (putB l) = l := by
  unfold getL getN
  rw [putB_len, Nat.mul_div_cancel_left _ (by omega)]
  apply List.ext_getElem
  · simp
  · intro i h1 h2
    rw [List.getElem_map, List.getElem_range]
    exact getI_putB hg h2
theorem chk_ops {l : List Inst} (h : chk l = true) : 1 ≤ l.length ∧ l.length ≤ 128 ∧ ∀ x ∈ l, 0 ≤ x.1 ∧ x.1 ≤ 37 ∧ x.2 < bel x.1 l.length := by
  unfold chk at h
  simp only [Bool.and_eq_true, decide_eq_true_eq, List.all_eq_true] at h
  obtain ⟨⟨⟨h1, h2⟩, _⟩, h4⟩ := h
  refine ⟨h1, h2, fun x hx => ?_⟩
  have := h4 x hx
  unfold okI at this
  simp only [Bool.and_eq_true, decide_eq_true_eq] at this
  exact ⟨this.1.1, this.1.2, this.2⟩
theorem back_put {l : List Inst} (h : chk l = true) (hg : ∀ x ∈ l, goodI x) : okB (putB l) = true ∧ getL (putB l) = l ∧ getE (putB l) = 0 := by
  obtain ⟨h1, h2, h3⟩ := chk_ops h
  have e := getL_putB (l := l) (fun x hx => ⟨hg x hx, (h3 x hx).1, by have := (h3 x hx).2.1; omega⟩)
  have hf : formB (putB l) = true := by
    unfold formB
    rw [putB_len, decide_eq_true (by omega), decide_eq_true (p := 9 * l.length ≤ 1152) (by omega), decide_eq_true (by omega)]
    rfl
  have hc : chk (getL (putB l)) = true := by rw [e]; exact h
  exact ⟨by unfold okB; rw [hf, hc]; rfl, e, (form_ok hf hc).1⟩
theorem putB_getN {b : List Nat} (hb : goodB b) : ∀ k, 9 * k ≤ b.length → putB (getN b k) = b.take (9 * k)
  | 0, _ => by simp [getN, putB]
  | k + 1, h => by
    rw [getN_succ, putB_snoc, putB_getN hb k (by omega)]
    have hx := goodB_at hb (9 * k)
    have e1 : encB (getI b k) = (b.drop (9 * k)).take 9 := by
      unfold encB getI
      have h8 : ((b.drop (9 * k + 1)).take 8).length = 8 := by rw [List.length_take, List.length_drop]; omega
      rw [leB_fromB h8 (goodB_sub hb _ _)]
      have e2 : b.drop (9 * k) = b.getD (9 * k) 0 :: b.drop (9 * k + 1) := by
        rw [List.drop_eq_getElem_cons (by omega)]
        congr 1
        rw [List.getD, List.getElem?_eq_getElem (by omega)]; rfl
      rw [e2, List.take_succ_cons]
      congr 1
      simp only; omega
    rw [e1, show 9 * (k + 1) = 9 * k + 9 from by omega, List.take_add]
theorem back_get {b : List Nat} (h : okB b = true) (hb : goodB b) : chk (getL b) = true ∧ putB (getL b) = b ∧ getE b = 0 := by
  have h' := h
  unfold okB at h'
  rw [Bool.and_eq_true] at h'
  refine ⟨h'.2, ?_, (form_ok h'.1 h'.2).1⟩
  have hf := h'.1
  unfold formB at hf
  simp only [Bool.and_eq_true, decide_eq_true_eq] at hf
  unfold getL
  rw [putB_getN hb _ (by omega)]
  exact List.take_of_length_le (by omega)
theorem back_no {b : List Nat} (h : okB b = false) : (getE b == 0) = false ∧ (getE b != 0) = true := by
  have : getE b = 3 ∨ getE b = 290 := by
    unfold okB at h
    by_cases hf : formB b = true
    · rw [hf, Bool.true_and] at h
      exact .inr (form_bad hf h).1
    · exact .inl (form_no (Go.b_false hf)).1
  rcases this with e | e <;> (rw [e]; decide)
end Go.Proofs.Cd
