/-
  What is left on a wheel, what came: in one step, in many. No program in sight.
-/
import Derived.Test.YtfblognifnnadaaWhChkP
set_option linter.unusedVariables false
set_option linter.unusedSimpArgs false
namespace Go.Proofs.Wh
theorem slotB_of : ∀ {l : List Tm} {now i : Nat} {p : Option Tm}, (∀ t ∈ l, t.1 % 8 = i ∧ now < t.1 ∧ t.1 ≤ MaxT) → l.Pairwise tlt → (∀ q, p = some q → ∀ t ∈ l, tlt q t) → slotB now i p l = true := by
  intro l
  induction l with
  | nil => intro now i p _ _ _; rfl
  | cons x r ih =>
    intro now i p h1 h2 h3
    unfold slotB tmB
    obtain ⟨g1, g2⟩ := List.pairwise_cons.1 h2
    obtain ⟨k1, k2, k3⟩ := h1 x (List.mem_cons_self ..)
    have e : slotB now i (some x) r = true := ih (fun t ht => h1 t (List.mem_cons_of_mem _ ht)) g2 (fun q hq t ht => by cases hq; exact g1 t ht)
    rw [e, decide_eq_true k1, decide_eq_true k2, decide_eq_true k3]
    cases p with
    | none => rfl
    | some q =>
      have := aheadB_iff.2 (h3 q rfl x (List.mem_cons_self ..))
      simp [this]
theorem slotsB_left {now nw : Nat} : ∀ {S : List (List Tm)} {i : Nat}, slotsB now i S = true → slotsB nw i (S.map (leftF nw)) = true := by
  intro S
  induction S with
  | nil => intro i _; rfl
  | cons x r ih =>
    intro i h
    unfold slotsB at h
    simp only [Bool.and_eq_true] at h
    rw [List.map_cons]
    unfold slotsB
    rw [ih h.2, Bool.and_true]
    obtain ⟨g1, g2, _⟩ := slotB_ok h.1
    refine slotB_of (fun t ht => ?_) (g2.filter _) (fun q hq => by cases hq)
    unfold leftF at ht
    obtain ⟨h3, h4⟩ := List.mem_filter.1 ht
    simp only [Bool.not_eq_true', decide_eq_false_iff_not] at h4
    exact ⟨(g1 t h3).1, by omega, (g1 t h3).2.2⟩
theorem left_flat (nw : Nat) (S : List (List Tm)) : (S.map (leftF nw)).flatten = leftF nw S.flatten := by
  unfold leftF
  exact List.filter_flatten.symm
theorem idsB_filter {p : Tm → Bool} : ∀ {l : List Tm}, idsB l = true → idsB (l.filter p) = true := by
  intro l
  induction l with
  | nil => intro _; rfl
  | cons x r ih =>
    intro h
    unfold idsB at h
    simp only [Bool.and_eq_true, List.all_eq_true] at h
    rw [List.filter_cons]
    by_cases hx : p x = true
    · rw [if_pos hx]
      unfold idsB
      simp only [Bool.and_eq_true, List.all_eq_true]
      exact ⟨fun u hu => h.1 u (List.mem_filter.1 hu).1, ih h.2⟩
    · rw [if_neg hx]; exact ih h.2
theorem chk_left {now nw : Nat} {S : List (List Tm)} (h : chkW now S = true) (hn : nw ≤ MaxT) : chkW nw (S.map (leftF nw)) = true := by
  unfold chkW at h ⊢
  simp only [Bool.and_eq_true, decide_eq_true_eq] at h ⊢
  refine ⟨⟨⟨hn, ?_⟩, slotsB_left h.1.2⟩, ?_⟩
  · rw [left_flat]; exact Nat.le_trans (List.length_filter_le _ _) h.1.1.2
  · rw [left_flat]; exact idsB_filter h.2
theorem left_same {nw : Nat} {S : List (List Tm)} (h : ∀ t ∈ S.flatten, nw < t.1) : S.map (leftF nw) = S := by
  conv => rhs; rw [← List.map_id S]
  apply List.map_congr_left
  intro l hl
  unfold leftF
  rw [id, List.filter_eq_self]
  intro t ht
  have := h t (List.mem_flatten.2 ⟨l, hl, ht⟩)
  simp only [Bool.not_eq_true', decide_eq_false_iff_not]
  omega
theorem came_empty {nw : Nat} {l : List Tm} (h : ∀ t ∈ l, nw < t.1) : cameF nw l = [] := by
  unfold cameF
  rw [List.filter_eq_nil_iff]
  intro t ht
  have := h t ht
  simp only [decide_eq_true_eq]; omega
theorem left_left {a b : Nat} (h : a ≤ b) (l : List Tm) : leftF b (leftF a l) = leftF b l := by
  unfold leftF
  rw [List.filter_filter]
  apply List.filter_congr
  intro t _
  by_cases h1 : t.1 ≤ b
  · simp [h1]
  · have h2 : ¬ t.1 ≤ a := by omega
    simp [h1, h2]
theorem left_lefts {a b : Nat} (h : a ≤ b) (S : List (List Tm)) : (S.map (leftF a)).map (leftF b) = S.map (leftF b) := by
  rw [List.map_map]
  exact List.map_congr_left fun l _ => left_left h l
theorem came_step {a b : Nat} (h : a ≤ b) : ∀ (l : List Tm), (cameF a l ++ cameF b (leftF a l)).Perm (cameF b l) := by
  intro l
  induction l with
  | nil => exact List.Perm.refl _
  | cons x r ih =>
    unfold cameF leftF at ih ⊢
    by_cases h1 : x.1 ≤ a
    · have h2 : x.1 ≤ b := by omega
      simp only [List.filter_cons, h1, h2, decide_true, Bool.not_true, if_true, Bool.false_eq_true, if_false]
      exact ih.cons x
    · by_cases h2 : x.1 ≤ b
      · simp only [List.filter_cons, h1, h2, decide_true, decide_false, Bool.not_false, if_true, Bool.false_eq_true, if_false]
        exact List.perm_middle.trans (ih.cons x)
      · simp only [List.filter_cons, h1, h2, decide_false, Bool.not_false, if_true, Bool.false_eq_true, if_false]
        exact ih
/-- Sorted, as far as the order tells. -/
def Srt (l : List Tm) : Prop := l.Pairwise fun x y => ¬ tlt y x
theorem srt_step {a b : Nat} {l cs ds : List Tm} (h1 : cs.Perm (cameF a l)) (h2 : ds.Perm (cameF b (leftF a l))) (g1 : Srt cs) (g2 : Srt ds) : Srt (cs ++ ds) := by
  refine List.pairwise_append.2 ⟨g1, g2, fun x hx y hy ht => ?_⟩
  have hx' := h1.mem_iff.1 hx
  have hy' := h2.mem_iff.1 hy
  unfold cameF at hx' hy'
  have q1 := (List.mem_filter.1 hx').2
  have q2 := (List.mem_filter.1 (List.mem_filter.1 hy').1).2
  simp only [decide_eq_true_eq, Bool.not_eq_true', decide_eq_false_iff_not] at q1 q2
  unfold tlt at ht
  omega
theorem srt_unique : ∀ {l m : List Tm}, Srt l → Srt m → l.Perm m → l = m := by
  intro l
  induction l with
  | nil => intro m _ _ h; exact (List.nil_perm.1 h).symm ▸ rfl
  | cons x r ih =>
    intro m hl hm h
    cases m with
    | nil => exact absurd h.length_eq (by simp)
    | cons y s =>
      obtain ⟨a1, a2⟩ := List.pairwise_cons.1 hl
      obtain ⟨b1, b2⟩ := List.pairwise_cons.1 hm
      have e : x = y := by
        rcases tlt_tri x y with k | k | k
        · rcases List.mem_cons.1 (h.mem_iff.1 (List.mem_cons_self (a := x) (l := r))) with e | e
          · exact e
          · exact (b1 x e k).elim
        · exact k
        · rcases List.mem_cons.1 (h.mem_iff.2 (List.mem_cons_self (a := y) (l := s))) with e | e
          · exact e.symm
          · exact (a1 y e k).elim
      subst e
      rw [ih a2 b2 (List.Perm.cons_inv h)]
theorem few_len {S : List (List Tm)} (h : S.all (fun l => decide (l.length ≤ 60)) = true) : ∀ l ∈ S, l.length ≤ 1000 := by
  intro l hl
  have := List.all_eq_true.1 h l hl
  simp only [decide_eq_true_eq] at this
  omega
end Go.Proofs.Wh
