/-
  What a part adds to a stream's pieces; the runs of what stands at each place. No program in sight.
-/
import Derived.Test.YtpbeemgigpaacaaWiPlain
set_option linter.unusedVariables false
set_option linter.unusedSimpArgs false
namespace Go.Proofs.Wi
theorem within_none {x : Sp} {a b : Int} (h : within x a b = none) (k : Nat) : ¬ (cov x k ∧ a ≤ k ∧ (k : Int) < b) := by
  unfold within at h
  split at h
  · rintro ⟨h1, h2, h3⟩
    unfold cov at h1
    omega
  · cases h
theorem within_some {x y : Sp} {a b : Int} (h : within x a b = some y) : y.1 = max x.1 a ∧ y.2.length = (min (x.1 + x.2.length) b - max x.1 a).toNat ∧ max x.1 a < min (x.1 + x.2.length) b ∧ ∀ i, i < y.2.length → y.2[i]? = x.2[(max x.1 a - x.1).toNat + i]? := by
  unfold within at h
  split at h
  · cases h
  · rename_i hlt
    cases h
    refine ⟨rfl, ?_, by omega, fun i hi => ?_⟩
    · simp only [List.length_take, List.length_drop]
      omega
    · simp only at hi ⊢
      rw [List.length_take] at hi
      rw [List.getElem?_take, if_pos (by omega), List.getElem?_drop]
theorem within_cov {x y : Sp} {a b : Int} (h : within x a b = some y) (k : Nat) : cov y k ↔ cov x k ∧ a ≤ k ∧ (k : Int) < b := by
  obtain ⟨h1, h2, h3, _⟩ := within_some h
  unfold cov
  rw [h1, h2]
  omega
theorem within_get {x y : Sp} {a b : Int} (h : within x a b = some y) {k : Nat} (hk : cov y k) : y.2[((k : Int) - y.1).toNat]? = x.2[((k : Int) - x.1).toNat]? := by
  obtain ⟨h1, h2, h3, h4⟩ := within_some h
  unfold cov at hk
  rw [h4 _ (by omega)]
  congr 1
  omega
theorem ord_append : ∀ {l l' : List Sp} {a : Int}, Ord a l → Ord a l' → (∀ x ∈ l, ∀ y ∈ l', x.1 + x.2.length ≤ y.1) → Ord a (l ++ l') := by
  intro l
  induction l with
  | nil => intro l' a _ h _; exact h
  | cons x r ih =>
    intro l' a h h' hx
    refine ⟨h.1, h.2.1, ih h.2.2 ?_ fun z hz y hy => hx z (List.mem_cons_of_mem _ hz) y hy⟩
    cases l' with
    | nil => trivial
    | cons y t => exact ⟨hx x (List.mem_cons_self ..) y (List.mem_cons_self ..), h'.2.1, h'.2.2⟩
theorem fresh_ord (x : Sp) : ∀ (had : List Sp) (a c : Int), Ord c had → Ord a (fresh x a had) := by
  intro had
  induction had with
  | nil =>
    intro a c _
    unfold fresh
    cases h : within x a (x.1 + x.2.length) with
    | none => trivial
    | some y =>
      obtain ⟨h1, h2, h3, _⟩ := within_some h
      exact ⟨by omega, fun e => by rw [e] at h2; simp at h2; omega, trivial⟩
  | cons h0 r ih =>
    intro a c ho
    unfold fresh
    have hr := ih (max a (h0.1 + h0.2.length)) _ ho.2.2
    refine ord_append ?_ (ord_mono (by omega) hr) ?_
    · cases h : within x a h0.1 with
      | none => trivial
      | some y =>
        obtain ⟨h1, h2, h3, _⟩ := within_some h
        exact ⟨by omega, fun e => by rw [e] at h2; simp at h2; omega, trivial⟩
    · intro y hy z hz
      cases h : within x a h0.1 with
      | none => rw [h] at hy; cases hy
      | some y0 =>
        rw [h] at hy
        obtain rfl : y = y0 := by simpa using hy
        obtain ⟨h1, h2, h3, _⟩ := within_some h
        have := hr.lo z hz
        omega
theorem fresh_dis (x : Sp) : ∀ (had : List Sp) (a c : Int), Ord c had → ∀ y ∈ fresh x a had, ∀ h ∈ had, dis y h := by
  intro had
  induction had with
  | nil => intro a c _ y _ h hh; cases hh
  | cons h0 r ih =>
    intro a c ho y hy h hh
    unfold fresh at hy
    rcases List.mem_append.1 hy with hy | hy
    · cases hw : within x a h0.1 with
      | none => rw [hw] at hy; cases hy
      | some y0 =>
        rw [hw] at hy
        obtain rfl : y = y0 := by simpa using hy
        obtain ⟨h1, h2, h3, _⟩ := within_some hw
        have hlo : h0.1 ≤ h.1 := by
          rcases List.mem_cons.1 hh with rfl | hh
          · exact Int.le_refl _
          · have := ho.2.2.lo h hh
            omega
        exact .inl (by omega)
    · rcases List.mem_cons.1 hh with rfl | hh
      · have := (fresh_ord x r _ _ ho.2.2).lo y hy
        exact .inr (by omega)
      · exact ih _ _ ho.2.2 y hy h hh
theorem fresh_cont (x : Sp) : ∀ (had : List Sp) (a c : Int), Ord c had → ∀ k, cont (fresh x a had) k = if cov x k ∧ a ≤ k ∧ cont had k = none then x.2[((k : Int) - x.1).toNat]? else none := by
  intro had
  induction had with
  | nil =>
    intro a c _ k
    unfold fresh
    cases h : within x a (x.1 + x.2.length) with
    | none =>
      have := within_none h k
      rw [if_neg (fun g => this ⟨g.1, g.2.1, by have := g.1; unfold cov at this; omega⟩)]; rfl
    | some y =>
      show cont [y] k = _
      unfold cont
      by_cases hc : cov y k
      · have := (within_cov h k).1 hc
        rw [if_pos hc, if_pos ⟨this.1, this.2.1, rfl⟩, within_get h hc]
      · rw [if_neg hc, if_neg (fun g => hc ((within_cov h k).2 ⟨g.1, g.2.1, by have := g.1; unfold cov at this; omega⟩))]; rfl
  | cons h0 r ih =>
    intro a c ho k
    unfold fresh
    rw [cont_append, ih _ _ ho.2.2 k]
    have hl : cont (within x a h0.1).toList k = if cov x k ∧ a ≤ k ∧ (k : Int) < h0.1 then x.2[((k : Int) - x.1).toNat]? else none := by
      cases h : within x a h0.1 with
      | none => rw [if_neg (within_none h k)]; rfl
      | some y =>
        show cont [y] k = _
        unfold cont
        by_cases hc : cov y k
        · rw [if_pos hc, if_pos ((within_cov h k).1 hc), within_get h hc]
        · rw [if_neg hc, if_neg (fun g => hc ((within_cov h k).2 g))]; rfl
    rw [hl]
    by_cases hx : cov x k ∧ a ≤ k
    · obtain ⟨v, hv⟩ := cov_some hx.1
      by_cases h1 : (k : Int) < h0.1
      · have ho' : Ord h0.1 (h0 :: r) := ⟨Int.le_refl _, ho.2.1, ho.2.2⟩
        have hn : cont (h0 :: r) k = none := ho'.none h1
        rw [hv, if_pos (show cov x k ∧ a ≤ k ∧ (k : Int) < h0.1 from ⟨hx.1, hx.2, h1⟩), if_pos (show cov x k ∧ a ≤ k ∧ cont (h0 :: r) k = none from ⟨hx.1, hx.2, hn⟩)]; rfl
      · rw [if_neg (fun g => h1 g.2.2), Option.none_or]
        by_cases h2 : cov h0 k
        · rw [if_neg (fun g => by have := g.2.1; unfold cov at h2; omega)]
          obtain ⟨u, hu⟩ := cov_some h2
          rw [if_neg (fun g => by have := g.2.2; unfold cont at this; rw [if_pos h2, hu] at this; cases this)]
        · have hc : cont (h0 :: r) k = cont r k := by conv => lhs; unfold cont; rw [if_neg h2]
          rw [hc]
          by_cases h3 : cont r k = none
          · rw [if_pos ⟨hx.1, by unfold cov at h2; omega, h3⟩, if_pos ⟨hx.1, hx.2, h3⟩]
          · rw [if_neg (fun g => h3 g.2.2), if_neg (fun g => h3 g.2.2)]
    · rw [if_neg (fun g => hx ⟨g.1, g.2.1⟩), if_neg (fun g => hx ⟨g.1, by have := g.2.1; omega⟩), if_neg (fun g => hx ⟨g.1, g.2.1⟩)]; rfl
/-- Sorted, nonempty and apart: in order. -/
theorem ord_of_sorted : ∀ {l : List Sp} {a : Int}, l.Pairwise (fun x y => x.1 ≤ y.1) → l.Pairwise dis → (∀ x ∈ l, x.2 ≠ [] ∧ a ≤ x.1) → Ord a l := by
  intro l
  induction l with
  | nil => intro a _ _ _; trivial
  | cons x r ih =>
    intro a h1 h2 h3
    obtain ⟨s1, s2⟩ := List.pairwise_cons.1 h1
    obtain ⟨d1, d2⟩ := List.pairwise_cons.1 h2
    obtain ⟨n1, n2⟩ := h3 x (List.mem_cons_self ..)
    refine ⟨n2, n1, ih s2 d2 fun y hy => ⟨(h3 y (List.mem_cons_of_mem _ hy)).1, ?_⟩⟩
    have hxp := List.length_pos_iff.2 n1
    have hyp := List.length_pos_iff.2 (h3 y (List.mem_cons_of_mem _ hy)).1
    have := s1 y hy
    have hd := d1 y hy
    unfold dis at hd
    omega
theorem chkL_sep {room : Int} : ∀ {l : List Sp} {a : Int}, 0 ≤ a → (chkL room a l = true ↔ Sep a l ∧ ∀ x ∈ l, x.1 + x.2.length ≤ room) := by
  intro l
  induction l with
  | nil => intro a _; simp [chkL, Sep]
  | cons x r ih =>
    intro a ha
    unfold chkL
    by_cases h : x.2.length = 0 ∨ room < x.2.length ∨ x.1 ≤ a ∨ room - x.2.length < x.1
    · rw [if_pos h]
      constructor
      · intro g; cases g
      · rintro ⟨⟨g1, g2, g3⟩, g4⟩
        exfalso
        have := List.length_pos_iff.2 g2
        have := g4 x (List.mem_cons_self ..)
        omega
    · rw [if_neg h, ih (by omega)]
      have hne : x.2 ≠ [] := fun e => h (.inl (by rw [e]; rfl))
      constructor
      · rintro ⟨g1, g2⟩
        exact ⟨⟨by omega, hne, g1⟩, fun y hy => (List.mem_cons.1 hy).elim (fun e => e ▸ by omega) (g2 y)⟩
      · rintro ⟨⟨g1, g2, g3⟩, g4⟩
        exact ⟨g3, fun y hy => g4 y (List.mem_cons_of_mem _ hy)⟩
/-! ### The runs of what stands at each place. -/
def runsStep (g : Nat → Option Nat) (k : Nat) (out : List Sp) : List Sp :=
  match g k with
  | none => out
  | some v => if (g (k - 1)).isSome then out.dropLast ++ [((out.getLastD (0, [])).1, (out.getLastD (0, [])).2 ++ [v])] else out ++ [((k : Int), [v])]
structure RunInv (g : Nat → Option Nat) (n k : Nat) (out : List Sp) : Prop where
  sep : Sep n out
  le : ∀ y ∈ out, y.1 + y.2.length ≤ k
  lo : n ≤ k
  last : n < k → (g (k - 1)).isSome → ∃ (p : List Sp) (z : Sp), out = p ++ [z] ∧ z.1 + z.2.length = (k : Int)
  gap : (k = n ∨ g (k - 1) = none) → ∀ y ∈ out, y.1 + y.2.length < k
  cont : ∀ j, cont out j = if n ≤ j ∧ j < k then g j else none
theorem RunInv.start (g : Nat → Option Nat) (n : Nat) : RunInv g n n [] :=
  ⟨trivial, fun _ h => (List.not_mem_nil h).elim, Nat.le_refl _, fun h => absurd h (Nat.lt_irrefl _), fun _ _ h => (List.not_mem_nil h).elim, fun j => by rw [if_neg (by omega)]; rfl⟩
theorem cont_one (k v j : Nat) : Wi.cont [((k : Int), [v])] j = if j = k then some v else none := by
  unfold Wi.cont
  by_cases h : j = k
  · subst h
    rw [if_pos (by unfold cov; simp only [List.length_cons, List.length_nil]; omega), if_pos rfl]
    simp
  · rw [if_neg (by unfold cov; simp; omega), if_neg h]; rfl
theorem RunInv.step {g : Nat → Option Nat} {n k : Nat} {out : List Sp} (h : RunInv g n k out) (hn : g n = none) : RunInv g n (k + 1) (runsStep g k out) := by
  have hlo := h.lo
  unfold runsStep
  cases hg : g k with
  | none =>
    dsimp only
    refine ⟨h.sep, fun y hy => by have := h.le y hy; omega, by omega, fun _ hs => ?_, fun _ y hy => by have := h.le y hy; omega, fun j => ?_⟩
    · rw [Nat.add_sub_cancel, hg] at hs; cases hs
    · rw [h.cont j]
      by_cases hj : n ≤ j ∧ j < k
      · rw [if_pos hj, if_pos (by omega)]
      · rw [if_neg hj]
        by_cases e : j = k
        · subst e
          split
          · exact hg.symm
          · rfl
        · rw [if_neg (by omega)]
  | some v =>
    dsimp only
    have hkn : n < k := by
      rcases Nat.lt_or_eq_of_le hlo with e | e
      · exact e
      · rw [← e, hn] at hg; cases hg
    have hcont : ∀ j, (Wi.cont out j).or (Wi.cont [((k : Int), [v])] j) = if n ≤ j ∧ j < k + 1 then g j else none := fun j => by
      rw [h.cont j, cont_one]
      by_cases e : j = k
      · subst e
        rw [if_neg (by omega), if_pos rfl, if_pos (by omega), hg]; rfl
      · rw [if_neg e, Option.or_none]
        by_cases hj : n ≤ j ∧ j < k
        · rw [if_pos hj, if_pos (by omega)]
        · rw [if_neg hj, if_neg (by omega)]
    by_cases hs : (g (k - 1)).isSome = true
    · rw [if_pos hs]
      obtain ⟨p, z, rfl, hz⟩ := h.last hkn hs
      rw [cont_last, List.dropLast_concat]
      obtain ⟨s1, s2, s3, s4⟩ := sep_snoc.1 h.sep
      refine ⟨sep_snoc.2 ⟨s1, by simp, s3, s4⟩, fun y hy => ?_, by omega, fun _ _ => ⟨p, _, rfl, by simp only [List.length_append, List.length_cons, List.length_nil]; omega⟩, fun hgap => ?_, fun j => ?_⟩
      · rcases List.mem_append.1 hy with hy | hy
        · have := h.le y (List.mem_append_left _ hy); omega
        · rw [List.mem_singleton.1 hy]
          simp only [List.length_append, List.length_cons, List.length_nil]
          omega
      · rcases hgap with e | e
        · omega
        · rw [Nat.add_sub_cancel, hg] at e; cases e
      · have e1 := cont_two z ((k : Int), [v]) hz [] j
        have e2 : Wi.cont (p ++ [(z.1, z.2 ++ [v])]) j = Wi.cont (p ++ (z :: [((k : Int), [v])])) j := cont_app_congr p e1
        rw [e2, show p ++ (z :: [((k : Int), [v])]) = (p ++ [z]) ++ [((k : Int), [v])] by simp, cont_append]
        exact hcont j
    · rw [if_neg hs]
      have hs0 : g (k - 1) = none := by
        cases e : g (k - 1) with
        | none => rfl
        | some u => rw [e] at hs; exact absurd rfl hs
      have hgap := h.gap (.inr hs0)
      refine ⟨sep_snoc.2 ⟨h.sep, by simp, by simp only; omega, hgap⟩, fun y hy => ?_, by omega, fun _ _ => ⟨out, _, rfl, by simp only [List.length_cons, List.length_nil]; omega⟩, fun hgap => ?_, fun j => ?_⟩
      · rcases List.mem_append.1 hy with hy | hy
        · have := h.le y hy; omega
        · rw [List.mem_singleton.1 hy]
          simp only [List.length_cons, List.length_nil]
          omega
      · rcases hgap with e | e
        · omega
        · rw [Nat.add_sub_cancel, hg] at e; cases e
      · rw [cont_append]
        exact hcont j
/-- What comes out, and what stays. -/
theorem head_split {j : List Sp} (h : Sep (-1) j) : ∃ (b : List Nat) (rest : List Sp), ((b ≠ [] ∧ j = (0, b) :: rest) ∨ (b = [] ∧ j = rest)) ∧ Sep b.length rest ∧ (∀ k, k < b.length → cont j k = b[k]?) ∧ cont j b.length = none ∧ ∀ k, cont rest k = if b.length ≤ k then cont j k else none := by
  cases j with
  | nil => exact ⟨[], [], .inr ⟨rfl, rfl⟩, trivial, fun k hk => (by simp at hk), rfl, fun k => (if_pos (Nat.zero_le _)).symm⟩
  | cons x r =>
    obtain ⟨h1, h2, h3⟩ := h
    by_cases h0 : x.1 = 0
    · obtain ⟨x1, b⟩ := x
      simp only at h0 h2 h3
      subst h0
      rw [Int.zero_add] at h3
      have c1 : ∀ k, k < b.length → cont ((0, b) :: r) k = b[k]? := fun k hk => by
        unfold cont
        rw [if_pos (by unfold cov; simp only; omega)]
        congr 1
      have c2 : ∀ k, b.length ≤ k → cont ((0, b) :: r) k = cont r k := fun k hk => by
        conv => lhs; unfold cont
        rw [if_neg (by unfold cov; simp only; omega)]
      refine ⟨b, r, .inl ⟨h2, rfl⟩, h3, c1, by rw [c2 _ (Nat.le_refl _)]; exact h3.none (Int.le_refl _), fun k => ?_⟩
      by_cases hk : b.length ≤ k
      · rw [if_pos hk, c2 k hk]
      · rw [if_neg hk]; exact h3.none (by omega)
    · have hs : Sep 0 (x :: r) := ⟨by omega, h2, h3⟩
      exact ⟨[], x :: r, .inr ⟨rfl, rfl⟩, hs, fun k hk => (by simp at hk), hs.none (by simp), fun k => (if_pos (Nat.zero_le _)).symm⟩
end Go.Proofs.Wi
