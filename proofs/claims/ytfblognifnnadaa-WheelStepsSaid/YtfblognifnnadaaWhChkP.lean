/-
  Which wheels may be, in plain words. No program in sight.
-/
import Derived.Test.YtfblognifnnadaaWhRef
set_option linter.unusedVariables false
set_option linter.unusedSimpArgs false
namespace Go.Proofs.Wh
def MaxT : Nat := 1099511627776
/-- One timer of slot i, behind another one. -/
def tmB (now i : Nat) (p : Option Tm) (t : Tm) : Bool := decide (t.1 % 8 = i) && decide (now < t.1) && decide (t.1 ≤ MaxT) && (match p with | none => true | some q => aheadB q t)
def slotB (now i : Nat) : Option Tm → List Tm → Bool
  | _, [] => true
  | p, t :: r => tmB now i p t && slotB now i (some t) r
def slotsB (now : Nat) : Nat → List (List Tm) → Bool
  | _, [] => true
  | i, l :: r => slotB now i none l && slotsB now (i + 1) r
/-- IDs apart. -/
def idsB : List Tm → Bool
  | [] => true
  | t :: r => (r.all fun u => decide (u.2 ≠ t.2)) && idsB r
def chkW (now : Nat) (S : List (List Tm)) : Bool := decide (now ≤ MaxT) && decide (S.flatten.length ≤ 32) && slotsB now 0 S && idsB S.flatten
theorem slotB_ok : ∀ {l : List Tm} {now i : Nat} {p : Option Tm}, slotB now i p l = true → (∀ t ∈ l, t.1 % 8 = i ∧ now < t.1 ∧ t.1 ≤ MaxT) ∧ l.Pairwise tlt ∧ ∀ q, p = some q → ∀ t ∈ l, tlt q t := by
  intro l
  induction l with
  | nil => intro now i p _; exact ⟨fun t h => (List.not_mem_nil h).elim, List.Pairwise.nil, fun _ _ t h => (List.not_mem_nil h).elim⟩
  | cons x r ih =>
    intro now i p h
    unfold slotB tmB at h
    simp only [Bool.and_eq_true, decide_eq_true_eq] at h
    obtain ⟨⟨⟨⟨h1, h2⟩, h3⟩, h4⟩, h5⟩ := h
    obtain ⟨g1, g2, g3⟩ := ih h5
    have g4 := g3 x rfl
    refine ⟨fun t ht => ?_, List.pairwise_cons.2 ⟨g4, g2⟩, fun q hq t ht => ?_⟩
    · rcases List.mem_cons.1 ht with rfl | ht
      · exact ⟨h1, h2, h3⟩
      · exact g1 t ht
    · subst hq
      have hqx : tlt q x := aheadB_iff.1 h4
      rcases List.mem_cons.1 ht with rfl | ht
      · exact hqx
      · exact tlt_trans hqx (g4 t ht)
theorem slotsB_ok : ∀ {S : List (List Tm)} {now i : Nat}, slotsB now i S = true → ∀ l ∈ S, (∀ t ∈ l, now < t.1 ∧ t.1 ≤ MaxT) ∧ l.Pairwise tlt := by
  intro S
  induction S with
  | nil => intro now i _ l h; exact (List.not_mem_nil h).elim
  | cons x r ih =>
    intro now i h l hl
    unfold slotsB at h
    simp only [Bool.and_eq_true] at h
    rcases List.mem_cons.1 hl with rfl | hl
    · obtain ⟨g1, g2, _⟩ := slotB_ok h.1
      exact ⟨fun t ht => (g1 t ht).2, g2⟩
    · exact ih h.2 l hl
/-- Of a wheel that may be, all timers are to come. -/
theorem chkW_all {now : Nat} {S : List (List Tm)} (h : chkW now S = true) : ∀ t ∈ S.flatten, now < t.1 ∧ t.1 ≤ MaxT := by
  unfold chkW at h
  simp only [Bool.and_eq_true, decide_eq_true_eq] at h
  intro t ht
  obtain ⟨l, hl, ht⟩ := List.mem_flatten.1 ht
  exact (slotsB_ok h.1.2 l hl).1 t ht
end Go.Proofs.Wh
