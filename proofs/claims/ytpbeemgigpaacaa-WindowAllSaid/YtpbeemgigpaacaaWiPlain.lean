/-
  A stream's pieces, in plain words. No program in sight.
-/
set_option linter.unusedVariables false
set_option linter.unusedSimpArgs false
namespace Go.Proofs.Wi
/-- How far one number of 32 bits is from another one. -/
def dif (a b : Nat) : Int := if ((a : Int) - b) % 4294967296 < 2147483648 then ((a : Int) - b) % 4294967296 else ((a : Int) - b) % 4294967296 - 4294967296
structure St where
  next : Nat
  bytes : List Nat
  ps : List (Nat × List Nat)
abbrev Sp := Int × List Nat
def spans (s : St) : List Sp := s.ps.map fun p => (dif p.1 s.next, p.2)
def chkL (room : Int) : Int → List Sp → Bool
  | _, [] => true
  | last, x :: r => if x.2.length = 0 ∨ room < x.2.length ∨ x.1 ≤ last ∨ room - x.2.length < x.1 then false else chkL room (x.1 + x.2.length) r
def chk (s : St) : Bool := if 256 < s.bytes.length then false else chkL (256 - s.bytes.length) 0 (spans s)
def room (s : St) : Int := if chk s then 256 - s.bytes.length else 0
def within (x : Sp) (a b : Int) : Option Sp :=
  if min (x.1 + x.2.length) b ≤ max x.1 a then none else some (max x.1 a, (x.2.drop (max x.1 a - x.1).toNat).take (min (x.1 + x.2.length) b - max x.1 a).toNat)
def fresh (x : Sp) : Int → List Sp → List Sp
  | a, [] => (within x a (x.1 + x.2.length)).toList
  | a, h :: r => (within x a h.1).toList ++ fresh x (max a (h.1 + h.2.length)) r
/-- Those that touch become one: what is out so far, and what comes. -/
def merge : List Sp → List Sp → List Sp
  | out, [] => out
  | out, x :: r => if out ≠ [] ∧ (out.getLastD (0, [])).1 + (out.getLastD (0, [])).2.length = x.1 then merge (out.dropLast ++ [((out.getLastD (0, [])).1, (out.getLastD (0, [])).2 ++ x.2)]) r else merge (out ++ [x]) r

/-! ### What stands at a place. -/
def cov (x : Sp) (k : Nat) : Prop := x.1 ≤ k ∧ (k : Int) < x.1 + x.2.length
instance (x : Sp) (k : Nat) : Decidable (cov x k) := by unfold cov; infer_instance
def cont : List Sp → Nat → Option Nat
  | [], _ => none
  | x :: r, k => if cov x k then x.2[((k : Int) - x.1).toNat]? else cont r k
theorem cont_cons (x : Sp) (r : List Sp) (k : Nat) : cont (x :: r) k = if cov x k then x.2[((k : Int) - x.1).toNat]? else cont r k := rfl
def dis (x y : Sp) : Prop := x.1 + x.2.length ≤ y.1 ∨ y.1 + y.2.length ≤ x.1
theorem dis_symm {x y : Sp} (h : dis x y) : dis y x := h.symm
theorem not_both {x y : Sp} (h : dis x y) {k : Nat} (hx : cov x k) : ¬ cov y k := fun hy => by
  unfold dis cov at *
  omega
theorem cov_some {x : Sp} {k : Nat} (h : cov x k) : ∃ v, x.2[((k : Int) - x.1).toNat]? = some v := by
  have : ((k : Int) - x.1).toNat < x.2.length := by unfold cov at h; omega
  exact ⟨_, List.getElem?_eq_getElem this⟩
theorem cont_none {l : List Sp} {k : Nat} (h : ∀ x ∈ l, ¬ cov x k) : cont l k = none := by
  induction l with
  | nil => rfl
  | cons x r ih =>
    unfold cont
    rw [if_neg (h x (List.mem_cons_self ..))]
    exact ih fun y hy => h y (List.mem_cons_of_mem _ hy)
theorem cont_of_mem {l : List Sp} (hd : l.Pairwise dis) {x : Sp} (hx : x ∈ l) {k : Nat} (hk : cov x k) : cont l k = x.2[((k : Int) - x.1).toNat]? := by
  induction l with
  | nil => cases hx
  | cons y r ih =>
    obtain ⟨h1, h2⟩ := List.pairwise_cons.1 hd
    unfold cont
    rcases List.mem_cons.1 hx with rfl | hx
    · rw [if_pos hk]
    · rw [if_neg (fun h => not_both (h1 x hx) h hk)]
      exact ih h2 hx
theorem cont_iff {l : List Sp} (hd : l.Pairwise dis) {k v : Nat} : cont l k = some v ↔ ∃ x ∈ l, cov x k ∧ x.2[((k : Int) - x.1).toNat]? = some v := by
  constructor
  · intro h
    by_cases hx : ∃ x ∈ l, cov x k
    · obtain ⟨x, hx, hk⟩ := hx
      exact ⟨x, hx, hk, by rw [← cont_of_mem hd hx hk]; exact h⟩
    · rw [cont_none fun x hm hk => hx ⟨x, hm, hk⟩] at h; cases h
  · rintro ⟨x, hx, hk, hv⟩
    rw [cont_of_mem hd hx hk]; exact hv
theorem cont_perm {l l' : List Sp} (hp : l.Perm l') (hd : l.Pairwise dis) (k : Nat) : cont l k = cont l' k := by
  have hd' : l'.Pairwise dis := hp.pairwise_iff (fun h => dis_symm h) |>.1 hd
  have key : ∀ v, cont l k = some v ↔ cont l' k = some v := fun v => by
    rw [cont_iff hd, cont_iff hd']
    exact ⟨fun ⟨x, h1, h2⟩ => ⟨x, hp.mem_iff.1 h1, h2⟩, fun ⟨x, h1, h2⟩ => ⟨x, hp.mem_iff.2 h1, h2⟩⟩
  cases h : cont l k with
  | none =>
    cases h' : cont l' k with
    | none => rfl
    | some v => rw [(key v).2 h'] at h; cases h
  | some v => exact ((key v).1 h).symm
theorem cont_append (l l' : List Sp) (k : Nat) : cont (l ++ l') k = (cont l k).or (cont l' k) := by
  induction l with
  | nil => simp [cont]
  | cons x r ih =>
    rw [List.cons_append, cont_cons, cont_cons]
    by_cases h : cov x k
    · rw [if_pos h, if_pos h]
      obtain ⟨v, hv⟩ := cov_some h
      rw [hv]; rfl
    · rw [if_neg h, if_neg h]; exact ih
/-! ### Apart. -/
/-- Nonempty, in order, and strictly apart; the first one behind a place. -/
def Sep : Int → List Sp → Prop
  | _, [] => True
  | last, x :: r => last < x.1 ∧ x.2 ≠ [] ∧ Sep (x.1 + x.2.length) r
/-- .. touching or apart. -/
def Ord : Int → List Sp → Prop
  | _, [] => True
  | last, x :: r => last ≤ x.1 ∧ x.2 ≠ [] ∧ Ord (x.1 + x.2.length) r
theorem Sep.ord {a : Int} {l : List Sp} (h : Sep a l) : Ord a l := by
  induction l generalizing a with
  | nil => trivial
  | cons x r ih => exact ⟨Int.le_of_lt h.1, h.2.1, ih h.2.2⟩
theorem Ord.lo {a : Int} {l : List Sp} (h : Ord a l) : ∀ x ∈ l, a ≤ x.1 := by
  induction l generalizing a with
  | nil => intro x hx; cases hx
  | cons y r ih =>
    intro x hx
    rcases List.mem_cons.1 hx with rfl | hx
    · exact h.1
    · have := ih h.2.2 x hx
      have := h.1
      omega
theorem Ord.dis {a : Int} {l : List Sp} (h : Ord a l) : l.Pairwise dis := by
  induction l generalizing a with
  | nil => exact List.Pairwise.nil
  | cons y r ih => exact List.pairwise_cons.2 ⟨fun x hx => .inl (h.2.2.lo x hx), ih h.2.2⟩
theorem Ord.none {a : Int} {l : List Sp} (h : Ord a l) {k : Nat} (hk : (k : Int) < a) : cont l k = none := cont_none fun x hx hc => by
  have := h.lo x hx
  unfold cov at hc
  omega
theorem ord_mono {a b : Int} {l : List Sp} (h : b ≤ a) (ho : Ord a l) : Ord b l := by
  cases l with
  | nil => trivial
  | cons x r => exact ⟨by have := ho.1; omega, ho.2.1, ho.2.2⟩
theorem Sep.lo {a : Int} {l : List Sp} (h : Sep a l) : ∀ x ∈ l, a < x.1 := by
  induction l generalizing a with
  | nil => intro x hx; cases hx
  | cons y r ih =>
    intro x hx
    rcases List.mem_cons.1 hx with rfl | hx
    · exact h.1
    · have := ih h.2.2 x hx
      have := h.1
      omega
theorem Sep.none {a : Int} {l : List Sp} (h : Sep a l) {k : Nat} (hk : (k : Int) ≤ a) : cont l k = none := cont_none fun x hx hc => by
  have := h.lo x hx
  unfold cov at hc
  omega
/-- WHAT STANDS AT EACH PLACE FIXES SUCH A LIST. -/
theorem sep_unique {a : Int} (ha : -1 ≤ a) : ∀ {l l' : List Sp}, Sep a l → Sep a l' → (∀ k, cont l k = cont l' k) → l = l' := by
  intro l
  induction l generalizing a with
  | nil =>
    intro l' _ h' hk
    cases l' with
    | nil => rfl
    | cons y r =>
      obtain ⟨h1, h2, _⟩ := h'
      have hpos := List.length_pos_iff.2 h2
      have hc : cov y y.1.toNat := by unfold cov; omega
      have := hk y.1.toNat
      obtain ⟨v, hv⟩ := cov_some hc
      unfold cont at this
      rw [if_pos hc, hv] at this
      cases this
  | cons x r ih =>
    intro l' h h' hk
    obtain ⟨h1, h2, h3⟩ := h
    have hxp := List.length_pos_iff.2 h2
    cases l' with
    | nil =>
      have hc : cov x x.1.toNat := by unfold cov; omega
      have := hk x.1.toNat
      obtain ⟨v, hv⟩ := cov_some hc
      unfold cont at this
      rw [if_pos hc, hv] at this
      cases this
    | cons y r' =>
      obtain ⟨g1, g2, g3⟩ := h'
      have hyp := List.length_pos_iff.2 g2
      -- a list whose first begins at x: what stands there
      have at0 : ∀ {z : Sp} {t : List Sp} {k : Nat}, cov z k → cont (z :: t) k = z.2[((k : Int) - z.1).toNat]? := fun hc => by unfold cont; rw [if_pos hc]
      have out : ∀ {z : Sp} {t : List Sp} {k : Nat}, Sep (z.1 + z.2.length) t → ((k : Int) < z.1 ∨ (k : Int) = z.1 + z.2.length) → z.2 ≠ [] → cont (z :: t) k = Option.none := fun {z t k} hs hk hz => by
        have hzp := List.length_pos_iff.2 hz
        unfold cont
        rw [if_neg (by unfold cov; omega)]
        exact hs.none (by omega)
      have e1 : x.1 = y.1 := by
        rcases Int.lt_trichotomy x.1 y.1 with g | g | g
        · have hc : cov x x.1.toNat := by unfold cov; omega
          obtain ⟨v, hv⟩ := cov_some hc
          have := hk x.1.toNat
          rw [at0 hc, hv, out g3 (by omega) g2] at this
          cases this
        · exact g
        · have hc : cov y y.1.toNat := by unfold cov; omega
          obtain ⟨v, hv⟩ := cov_some hc
          have := hk y.1.toNat
          rw [at0 hc, hv, out h3 (by omega) h2] at this
          cases this
      have e2 : x.2.length = y.2.length := by
        rcases Nat.lt_trichotomy x.2.length y.2.length with g | g | g
        · have hc : cov y (x.1 + x.2.length).toNat := by unfold cov; omega
          obtain ⟨v, hv⟩ := cov_some hc
          have := hk (x.1 + x.2.length).toNat
          rw [at0 hc, hv, out h3 (by omega) h2] at this
          cases this
        · exact g
        · have hc : cov x (y.1 + y.2.length).toNat := by unfold cov; omega
          obtain ⟨v, hv⟩ := cov_some hc
          have := hk (y.1 + y.2.length).toNat
          rw [at0 hc, hv, out g3 (by omega) g2] at this
          cases this
      have e3 : x.2 = y.2 := by
        apply List.ext_getElem?
        intro i
        by_cases hi : i < x.2.length
        · have hcx : cov x (x.1 + i).toNat := by unfold cov; omega
          have hcy : cov y (x.1 + i).toNat := by unfold cov; omega
          have := hk (x.1 + i).toNat
          rw [at0 hcx, at0 hcy] at this
          have f1 : ((((x.1 + i).toNat : Nat) : Int) - x.1).toNat = i := by omega
          have f2 : ((((x.1 + i).toNat : Nat) : Int) - y.1).toNat = i := by omega
          rw [f1, f2] at this
          exact this
        · rw [List.getElem?_eq_none (by omega), List.getElem?_eq_none (by omega)]
      have e : x = y := Prod.ext e1 e3
      subst e
      rw [ih (by omega) h3 g3 fun k => ?_]
      by_cases hc : cov x k
      · rw [h3.none (by unfold cov at hc; omega), g3.none (by unfold cov at hc; omega)]
      · have := hk k
        unfold cont at this
        rwa [if_neg hc, if_neg hc] at this
/-! ### Those that touch become one. -/
theorem cont_last {l : List Sp} {z : Sp} : (l ++ [z]).getLastD (0, []) = z := by simp [List.getLastD_eq_getLast?]
theorem sep_snoc : ∀ {l : List Sp} {a : Int} {z : Sp}, Sep a (l ++ [z]) ↔ Sep a l ∧ z.2 ≠ [] ∧ a < z.1 ∧ ∀ y ∈ l, y.1 + y.2.length < z.1 := by
  intro l
  induction l with
  | nil => intro a z; simp [Sep]; exact ⟨fun h => ⟨h.2, h.1⟩, fun h => ⟨h.2, h.1⟩⟩
  | cons x r ih =>
    intro a z
    rw [List.cons_append]
    unfold Sep
    rw [ih]
    constructor
    · rintro ⟨h1, h2, h3, h4, h5, h6⟩
      have := List.length_pos_iff.2 h2
      exact ⟨⟨h1, h2, h3⟩, h4, by omega, fun y hy => (List.mem_cons.1 hy).elim (fun e => e ▸ h5) (h6 y)⟩
    · rintro ⟨⟨h1, h2, h3⟩, h4, h5, h6⟩
      exact ⟨h1, h2, h3, h4, h6 x (List.mem_cons_self ..), fun y hy => h6 y (List.mem_cons_of_mem _ hy)⟩
theorem cont_two (x z : Sp) (hx : x.1 + x.2.length = z.1) (t : List Sp) (k : Nat) : cont ((x.1, x.2 ++ z.2) :: t) k = cont (x :: z :: t) k := by
  unfold cont
  by_cases h1 : cov x k
  · have h2 : cov (x.1, x.2 ++ z.2) k := by unfold cov at *; simp only [List.length_append]; omega
    rw [if_pos h1, if_pos h2]
    simp only
    rw [List.getElem?_append_left (by unfold cov at h1; omega)]
  · rw [if_neg h1]
    by_cases h3 : cov z k
    · have h2 : cov (x.1, x.2 ++ z.2) k := by unfold cov at *; simp only [List.length_append]; omega
      rw [if_pos h2]
      unfold cont
      rw [if_pos h3]
      simp only
      rw [List.getElem?_append_right (by unfold cov at h3; omega)]
      congr 1
      unfold cov at h3
      omega
    · have h2 : ¬ cov (x.1, x.2 ++ z.2) k := by unfold cov at *; simp only [List.length_append]; omega
      rw [if_neg h2]
      conv => rhs; unfold cont
      rw [if_neg h3]
theorem cont_cons_congr {x : Sp} {l l' : List Sp} {k : Nat} (h : cont l k = cont l' k) : cont (x :: l) k = cont (x :: l') k := by
  unfold cont
  by_cases hc : cov x k
  · rw [if_pos hc, if_pos hc]
  · rw [if_neg hc, if_neg hc]; exact h
theorem cont_app_congr (p : List Sp) {l l' : List Sp} {k : Nat} (h : cont l k = cont l' k) : cont (p ++ l) k = cont (p ++ l') k := by
  rw [cont_append, cont_append, h]
/-- The places where pieces end. -/
theorem merge_sep {a : Int} (ha : -1 ≤ a) : ∀ (l out : List Sp), Sep a out → (∀ y ∈ out, Ord (y.1 + y.2.length) l) → Ord (a + 1) l → Sep a (merge out l) ∧ ∀ k, cont (merge out l) k = cont (out ++ l) k := by
  intro l
  induction l with
  | nil => intro out h1 _ _; unfold merge; exact ⟨h1, fun k => by rw [List.append_nil]⟩
  | cons x r ih =>
    intro out h1 h2 h3
    unfold merge
    by_cases hm : out ≠ [] ∧ (out.getLastD (0, [])).1 + (out.getLastD (0, [])).2.length = x.1
    · rw [if_pos hm]
      obtain ⟨p, z, rfl⟩ : ∃ p z, out = p ++ [z] := ⟨out.dropLast, out.getLast hm.1, (List.dropLast_concat_getLast hm.1).symm⟩
      rw [cont_last] at hm ⊢
      rw [List.dropLast_concat]
      obtain ⟨s1, s2, s3, s4⟩ := sep_snoc.1 h1
      have hxo := h3
      unfold Ord at hxo
      have hz : Sep a (p ++ [(z.1, z.2 ++ x.2)]) := sep_snoc.2 ⟨s1, by simp [s2], s3, s4⟩
      obtain ⟨g1, g2⟩ := ih (p ++ [(z.1, z.2 ++ x.2)]) hz (fun y hy => by
        rcases List.mem_append.1 hy with hy | hy
        · have := h2 y (List.mem_append_left _ hy)
          unfold Ord at this
          have h4 := s4 y hy
          have hxp := List.length_pos_iff.2 hxo.2.1
          exact ord_mono (by have := this.1; omega) this.2.2
        · rw [List.mem_singleton.1 hy]
          simp only [List.length_append]
          exact ord_mono (by omega) hxo.2.2) (ord_mono (by have := List.length_pos_iff.2 hxo.2.1; have := hxo.1; omega) hxo.2.2)
      refine ⟨g1, fun k => ?_⟩
      rw [g2, List.append_assoc, List.append_assoc]
      exact cont_app_congr p (cont_two z x hm.2 r k)
    · rw [if_neg hm]
      have hxo := h3
      unfold Ord at hxo
      have hlast : ∀ y ∈ out, y.1 + y.2.length < x.1 := by
        by_cases ho : out = []
        · intro y hy; rw [ho] at hy; cases hy
        · obtain ⟨p, z, rfl⟩ : ∃ p z, out = p ++ [z] := ⟨out.dropLast, out.getLast ho, (List.dropLast_concat_getLast ho).symm⟩
          rw [cont_last] at hm
          obtain ⟨s1, s2, s3, s4⟩ := sep_snoc.1 h1
          have hz := h2 z (by simp)
          unfold Ord at hz
          have hzp := List.length_pos_iff.2 s2
          intro y hy
          rcases List.mem_append.1 hy with hy | hy
          · have := s4 y hy; have := hz.1; omega
          · rw [List.mem_singleton.1 hy]
            rcases Int.lt_or_eq_of_le hz.1 with g | g
            · exact g
            · exact absurd ⟨ho, g⟩ hm
      obtain ⟨g1, g2⟩ := ih (out ++ [x]) (sep_snoc.2 ⟨h1, hxo.2.1, by omega, hlast⟩) (fun y hy => by
        rcases List.mem_append.1 hy with hy | hy
        · have := h2 y hy
          unfold Ord at this
          have hxp := List.length_pos_iff.2 hxo.2.1
          have := hlast y hy
          exact ord_mono (by omega) hxo.2.2
        · rw [List.mem_singleton.1 hy]; exact hxo.2.2) (ord_mono (by have := List.length_pos_iff.2 hxo.2.1; have := hxo.1; omega) hxo.2.2)
      refine ⟨g1, fun k => ?_⟩
      rw [g2, List.append_assoc]; rfl
end Go.Proofs.Wi
