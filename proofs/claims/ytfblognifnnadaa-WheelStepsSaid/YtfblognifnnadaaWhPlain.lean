/-
  Timers on a wheel, in plain words: when the next one comes. No program in sight.
-/
set_option linter.unusedVariables false
set_option linter.unusedSimpArgs false
namespace Go.Proofs.Wh
/-- A timer: when, which. -/
abbrev Tm := Nat × Int
def tlt (a b : Tm) : Prop := a.1 < b.1 ∨ (a.1 = b.1 ∧ a.2 < b.2)
theorem tlt_trans {a b c : Tm} (h : tlt a b) (h' : tlt b c) : tlt a c := by
  unfold tlt at *; omega
theorem tlt_irr (a : Tm) : ¬ tlt a a := by unfold tlt; omega
theorem tlt_tri (a b : Tm) : tlt a b ∨ a = b ∨ tlt b a := by
  unfold tlt
  rcases Nat.lt_trichotomy a.1 b.1 with h | h | h
  · exact .inl (.inl h)
  · rcases Int.lt_trichotomy a.2 b.2 with g | g | g
    · exact .inl (.inr ⟨h, g⟩)
    · exact .inr (.inl (Prod.ext h g))
    · exact .inr (.inr (.inr ⟨h.symm, g⟩))
  · exact .inr (.inr (.inl h))
/-- When the next one comes: what was found so far, what is left. -/
def nextF : Option Nat → List Tm → Option Nat
  | o, [] => o
  | none, t :: r => nextF (some t.1) r
  | some a, t :: r => nextF (some (if t.1 < a then t.1 else a)) r
theorem nextF_le : ∀ {l : List Tm} {a b : Nat}, nextF (some a) l = some b → b ≤ a ∧ (∀ t ∈ l, b ≤ t.1) ∧ (b = a ∨ ∃ t ∈ l, t.1 = b) := by
  intro l
  induction l with
  | nil =>
    intro a b h
    unfold nextF at h
    cases h
    exact ⟨Nat.le_refl _, fun t ht => (List.not_mem_nil ht).elim, .inl rfl⟩
  | cons x r ih =>
    intro a b h
    unfold nextF at h
    obtain ⟨h1, h2, h3⟩ := ih h
    by_cases hx : x.1 < a
    · rw [if_pos hx] at h1 h3
      refine ⟨by omega, fun t ht => ?_, ?_⟩
      · rcases List.mem_cons.1 ht with rfl | ht
        · exact h1
        · exact h2 t ht
      · rcases h3 with rfl | ⟨t, ht, e⟩
        · exact .inr ⟨x, List.mem_cons_self .., rfl⟩
        · exact .inr ⟨t, List.mem_cons_of_mem _ ht, e⟩
    · rw [if_neg hx] at h1 h3
      refine ⟨h1, fun t ht => ?_, ?_⟩
      · rcases List.mem_cons.1 ht with rfl | ht
        · omega
        · exact h2 t ht
      · rcases h3 with rfl | ⟨t, ht, e⟩
        · exact .inl rfl
        · exact .inr ⟨t, List.mem_cons_of_mem _ ht, e⟩
theorem nextF_isSome : ∀ {l : List Tm} {a : Nat}, ∃ b, nextF (some a) l = some b := by
  intro l
  induction l with
  | nil => intro a; exact ⟨a, rfl⟩
  | cons x r ih => intro a; unfold nextF; exact ih
theorem nextF_none {l : List Tm} : nextF none l = none ↔ l = [] := by
  cases l with
  | nil => exact ⟨fun _ => rfl, fun _ => rfl⟩
  | cons x r =>
    refine ⟨fun h => ?_, fun h => by cases h⟩
    unfold nextF at h
    obtain ⟨b, hb⟩ := nextF_isSome (l := r) (a := x.1)
    rw [hb] at h
    cases h
/-- Nothing comes ahead of it, something then. -/
theorem nextF_first {l : List Tm} {b : Nat} (h : nextF none l = some b) : (∀ t ∈ l, b ≤ t.1) ∧ ∃ t ∈ l, t.1 = b := by
  cases l with
  | nil => cases h
  | cons x r =>
    unfold nextF at h
    obtain ⟨h1, h2, h3⟩ := nextF_le h
    refine ⟨fun t ht => ?_, ?_⟩
    · rcases List.mem_cons.1 ht with rfl | ht
      · exact h1
      · exact h2 t ht
    · rcases h3 with rfl | ⟨t, ht, e⟩
      · exact ⟨x, List.mem_cons_self .., rfl⟩
      · exact ⟨t, List.mem_cons_of_mem _ ht, e⟩
/-- What came by a time; what is left. -/
def cameF (now : Nat) (l : List Tm) : List Tm := l.filter fun t => decide (t.1 ≤ now)
def leftF (now : Nat) (l : List Tm) : List Tm := l.filter fun t => !decide (t.1 ≤ now)
theorem came_none {l : List Tm} {b : Nat} (h : nextF none l = some b) (hb : 0 < b) : cameF (b - 1) l = [] := by
  unfold cameF
  rw [List.filter_eq_nil_iff]
  intro t ht
  have := (nextF_first h).1 t ht
  simp only [decide_eq_true_eq]
  omega
theorem came_some {l : List Tm} {b : Nat} (h : nextF none l = some b) : cameF b l ≠ [] := by
  obtain ⟨t, ht, e⟩ := (nextF_first h).2
  intro h0
  unfold cameF at h0
  rw [List.filter_eq_nil_iff] at h0
  exact h0 t ht (by simp only [decide_eq_true_eq]; omega)
theorem left_all {l : List Tm} {b : Nat} (h : nextF none l = some b) (hb : 0 < b) : leftF (b - 1) l = l := by
  unfold leftF
  rw [List.filter_eq_self]
  intro t ht
  have := (nextF_first h).1 t ht
  simp only [Bool.not_eq_true', decide_eq_false_iff_not]
  omega
end Go.Proofs.Wh
