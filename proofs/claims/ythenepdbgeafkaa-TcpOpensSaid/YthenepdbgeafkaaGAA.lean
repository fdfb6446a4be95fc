set_option linter.unusedSimpArgs false
set_option linter.unusedVariables false
section
/-
 A stream's pieces, in plain words. No program in sight.
-/
namespace Go.Proofs.Wi
/-- How far one number of 32 bits is from another one. -/
def dif (a b : Nat) : Int := if ((a : Int) - b) % 4294967296 < 2147483648 then ((a : Int) - b) % 4294967296 else ((a : Int) - b) % 4294967296 - 4294967296
structure St where
 next : Nat
 bytes : List Nat
 ps : List (Nat × List Nat)
abbrev Sp := Int × List Nat
def spans (s : St) : List Sp := s.ps.map fun p => (dif p.1 s.next, p.2)
def chkL (room : Int) : Int → List Sp → Bool
 | _, [] => true
 | last, x :: r => if x.2.length = 0 ∨ room < x.2.length ∨ x.1 ≤ last ∨ room - x.2.length < x.1 then false else chkL room (x.1 + x.2.length) r
def chk (s : St) : Bool := if 256 < s.bytes.length then false else chkL (256 - s.bytes.length) 0 (spans s)
def room (s : St) : Int := if chk s then 256 - s.bytes.length else 0
def within (x : Sp) (a b : Int) : Option Sp :=
 if min (x.1 + x.2.length) b ≤ max x.1 a then none else some (max x.1 a, (x.2.drop (max x.1 a - x.1).toNat).take (min (x.1 + x.2.length) b - max x.1 a).toNat)
def fresh (x : Sp) : Int → List Sp → List Sp
 | a, [] => (within x a (x.1 + x.2.length)).toList
 | a, h :: r => (within x a h.1).toList ++ fresh x (max a (h.1 + h.2.length)) r
/-- Those that touch become one: what is out so far, and what comes. -/
def merge : List Sp → List Sp → List Sp
 | out, [] => out
 | out, x :: r => if out ≠ [] ∧ (out.getLastD (0, [])).1 + (out.getLastD (0, [])).2.length = x.1 then merge (out.dropLast ++ [((out.getLastD (0, [])).1, (out.getLastD (0, [])).2 ++ x.2)]) r else merge (out ++ [x]) r

/-! ### What stands at a place. -/
def cov (x : Sp) (k : Nat) : Prop := x.1 ≤ k ∧ (k : Int) < x.1 + x.2.length
instance (x : Sp) (k : Nat) : Decidable (cov x k) := by unfold cov; infer_instance
def cont : List Sp → Nat → Option Nat
 | [], _ => none
 | x :: r, k => if cov x k then x.2[((k : Int) - x.1).toNat]? else cont r k
theorem cont_cons (x : Sp) (r : List Sp) (k : Nat) : cont (x :: r) k = if cov x k then x.2[((k : Int) - x.1).toNat]? else cont r k := rfl
def dis (x y : Sp) : Prop := x.1 + x.2.length ≤ y.1 ∨ y.1 + y.2.length ≤ x.1
theorem dis_symm {x y : Sp} (h : dis x y) : dis y x := h.symm
theorem not_both {x y : Sp} (h : dis x y) {k : Nat} (hx : cov x k) : ¬ cov y k := fun hy => by
 unfold dis cov at *
 omega
theorem cov_some {x : Sp} {k : Nat} (h : cov x k) : ∃ v, x.2[((k : Int) - x.1).toNat]? = some v := by
 have : ((k : Int) - x.1).toNat < x.2.length := by unfold cov at h; omega
 exact ⟨_, List.getElem?_eq_getElem this⟩
theorem cont_none {l : List Sp} {k : Nat} (h : ∀ x ∈ l, ¬ cov x k) : cont l k = none := by
 induction l with
 | nil => rfl
 | cons x r ih =>
   unfold cont
   rw [if_neg (h x (List.mem_cons_self ..))]
   exact ih fun y hy => h y (List.mem_cons_of_mem _ hy)
theorem cont_of_mem {l : List Sp} (hd : l.Pairwise dis) {x : Sp} (hx : x ∈ l) {k : Nat} (hk : cov x k) : cont l k = x.2[((k : Int) - x.1).toNat]? := by
 induction l with
 | nil => cases hx
 | cons y r ih =>
   obtain ⟨h1, h2⟩ := List.pairwise_cons.1 hd
   unfold cont
   rcases List.mem_cons.1 hx with rfl | hx
   · rw [if_pos hk]
   · rw [if_neg (fun h => not_both (h1 x hx) h hk)]
     exact ih h2 hx
theorem cont_iff {l : List Sp} (hd : l.Pairwise dis) {k v : Nat} : cont l k = some v ↔ ∃ x ∈ l, cov x k ∧ x.2[((k : Int) - x.1).toNat]? = some v := by
 constructor
 · intro h
   by_cases hx : ∃ x ∈ l, cov x k
   · obtain ⟨x, hx, hk⟩ := hx
     exact ⟨x, hx, hk, by rw [← cont_of_mem hd hx hk]; exact h⟩
   · rw [cont_none fun x hm hk => hx ⟨x, hm, hk⟩] at h; cases h
 · rintro ⟨x, hx, hk, hv⟩
   rw [cont_of_mem hd hx hk]; exact hv
theorem cont_perm {l l' : List Sp} (hp : l.Perm l') (hd : l.Pairwise dis) (k : Nat) : cont l k = cont l' k := by
 have hd' : l'.Pairwise dis := hp.pairwise_iff (fun h => dis_symm h) |>.1 hd
 have key : ∀ v, cont l k = some v ↔ cont l' k = some v := fun v => by
   rw [cont_iff hd, cont_iff hd']
   exact ⟨fun ⟨x, h1, h2⟩ => ⟨x, hp.mem_iff.1 h1, h2⟩, fun ⟨x, h1, h2⟩ => ⟨x, hp.mem_iff.2 h1, h2⟩⟩
 cases h : cont l k with
 | none =>
   cases h' : cont l' k with
   | none => rfl
   | some v => rw [(key v).2 h'] at h; cases h
 | some v => exact ((key v).1 h).symm
theorem cont_append (l l' : List Sp) (k : Nat) : cont (l ++ l') k = (cont l k).or (cont l' k) := by
 induction l with
 | nil => simp [cont]
 | cons x r ih =>
   rw [List.cons_append, cont_cons, cont_cons]
   by_cases h : cov x k
   · rw [if_pos h, if_pos h]
     obtain ⟨v, hv⟩ := cov_some h
     rw [hv]; rfl
   · rw [if_neg h, if_neg h]; exact ih
/-! ### Apart. -/
/-- Nonempty, in order, and strictly apart; the first one behind a place. -/
def Sep : Int → List Sp → Prop
 | _, [] => True
 | last, x :: r => last < x.1 ∧ x.2 ≠ [] ∧ Sep (x.1 + x.2.length) r
/-- .. touching or apart. -/
def Ord : Int → List Sp → Prop
 | _, [] => True
 | last, x :: r => last ≤ x.1 ∧ x.2 ≠ [] ∧ Ord (x.1 + x.2.length) r
theorem Sep.ord {a : Int} {l : List Sp} (h : Sep a l) : Ord a l := by
 induction l generalizing a with
 | nil => trivial
 | cons x r ih => exact ⟨Int.le_of_lt h.1, h.2.1, ih h.2.2⟩
theorem Ord.lo {a : Int} {l : List Sp} (h : Ord a l) : ∀ x ∈ l, a ≤ x.1 := by
 induction l generalizing a with
 | nil => intro x hx; cases hx
 | cons y r ih =>
   intro x hx
   rcases List.mem_cons.1 hx with rfl | hx
   · exact h.1
   · have := ih h.2.2 x hx
     have := h.1
     omega
theorem Ord.dis {a : Int} {l : List Sp} (h : Ord a l) : l.Pairwise dis := by
 induction l generalizing a with
 | nil => exact List.Pairwise.nil
 | cons y r ih => exact List.pairwise_cons.2 ⟨fun x hx => .inl (h.2.2.lo x hx), ih h.2.2⟩
theorem Ord.none {a : Int} {l : List Sp} (h : Ord a l) {k : Nat} (hk : (k : Int) < a) : cont l k = none := cont_none fun x hx hc => by
 have := h.lo x hx
 unfold cov at hc
 omega
theorem ord_mono {a b : Int} {l : List Sp} (h : b ≤ a) (ho : Ord a l) : Ord b l := by
 cases l with
 | nil => trivial
 | cons x r => exact ⟨by have := ho.1; omega, ho.2.1, ho.2.2⟩
theorem Sep.lo {a : Int} {l : List Sp} (h : Sep a l) : ∀ x ∈ l, a < x.1 := by
 induction l generalizing a with
 | nil => intro x hx; cases hx
 | cons y r ih =>
   intro x hx
   rcases List.mem_cons.1 hx with rfl | hx
   · exact h.1
   · have := ih h.2.2 x hx
     have := h.1
     omega
theorem Sep.none {a : Int} {l : List Sp} (h : Sep a l) {k : Nat} (hk : (k : Int) ≤ a) : cont l k = none := cont_none fun x hx hc => by
 have := h.lo x hx
 unfold cov at hc
 omega
/-- WHAT STANDS AT EACH PLACE FIXES SUCH A LIST. -/
theorem sep_unique {a : Int} (ha : -1 ≤ a) : ∀ {l l' : List Sp}, Sep a l → Sep a l' → (∀ k, cont l k = cont l' k) → l = l' := by
 intro l
 induction l generalizing a with
 | nil =>
   intro l' _ h' hk
   cases l' with
   | nil => rfl
   | cons y r =>
     obtain ⟨h1, h2, _⟩ := h'
     have hpos := List.length_pos_iff.2 h2
     have hc : cov y y.1.toNat := by unfold cov; omega
     have := hk y.1.toNat
     obtain ⟨v, hv⟩ := cov_some hc
     unfold cont at this
     rw [if_pos hc, hv] at this
     cases this
 | cons x r ih =>
   intro l' h h' hk
   obtain ⟨h1, h2, h3⟩ := h
   have hxp := List.length_pos_iff.2 h2
   cases l' with
   | nil =>
     have hc : cov x x.1.toNat := by unfold cov; omega
     have := hk x.1.toNat
     obtain ⟨v, hv⟩ := cov_some hc
     unfold cont at this
     rw [if_pos hc, hv] at this
     cases this
   | cons y r' =>
     obtain ⟨g1, g2, g3⟩ := h'
     have hyp := List.length_pos_iff.2 g2
     -- a list whose first begins at x: what stands there
     have at0 : ∀ {z : Sp} {t : List Sp} {k : Nat}, cov z k → cont (z :: t) k = z.2[((k : Int) - z.1).toNat]? := fun hc => by unfold cont; rw [if_pos hc]
     have out : ∀ {z : Sp} {t : List Sp} {k : Nat}, Sep (z.1 + z.2.length) t → ((k : Int) < z.1 ∨ (k : Int) = z.1 + z.2.length) → z.2 ≠ [] → cont (z :: t) k = Option.none := fun {z t k} hs hk hz => by
       have hzp := List.length_pos_iff.2 hz
       unfold cont
       rw [if_neg (by unfold cov; omega)]
       exact hs.none (by omega)
     have e1 : x.1 = y.1 := by
       rcases Int.lt_trichotomy x.1 y.1 with g | g | g
       · have hc : cov x x.1.toNat := by unfold cov; omega
         obtain ⟨v, hv⟩ := cov_some hc
         have := hk x.1.toNat
         rw [at0 hc, hv, out g3 (by omega) g2] at this
         cases this
       · exact g
       · have hc : cov y y.1.toNat := by unfold cov; omega
         obtain ⟨v, hv⟩ := cov_some hc
         have := hk y.1.toNat
         rw [at0 hc, hv, out h3 (by omega) h2] at this
         cases this
     have e2 : x.2.length = y.2.length := by
       rcases Nat.lt_trichotomy x.2.length y.2.length with g | g | g
       · have hc : cov y (x.1 + x.2.length).toNat := by unfold cov; omega
         obtain ⟨v, hv⟩ := cov_some hc
         have := hk (x.1 + x.2.length).toNat
         rw [at0 hc, hv, out h3 (by omega) h2] at this
         cases this
       · exact g
       · have hc : cov x (y.1 + y.2.length).toNat := by unfold cov; omega
         obtain ⟨v, hv⟩ := cov_some hc
         have := hk (y.1 + y.2.length).toNat
         rw [at0 hc, hv, out g3 (by omega) g2] at this
         cases this
     have e3 : x.2 = y.2 := by
       apply List.ext_getElem?
       intro i
       by_cases hi : i < x.2.length
       · have hcx : cov x (x.1 + i).toNat := by unfold cov; omega
         have hcy : cov y (x.1 + i).toNat := by unfold cov; omega
         have := hk (x.1 + i).toNat
         rw [at0 hcx, at0 hcy] at this
         have f1 : ((((x.1 + i).toNat : Nat) : Int) - x.1).toNat = i := by omega
         have f2 : ((((x.1 + i).toNat : Nat) : Int) - y.1).toNat = i := by omega
         rw [f1, f2] at this
         exact this
       · rw [List.getElem?_eq_none (by omega), List.getElem?_eq_none (by omega)]
     have e : x = y := Prod.ext e1 e3
     subst e
     rw [ih (by omega) h3 g3 fun k => ?_]
     by_cases hc : cov x k
     · rw [h3.none (by unfold cov at hc; omega), g3.none (by unfold cov at hc; omega)]
     · have := hk k
       unfold cont at this
       rwa [if_neg hc, if_neg hc] at this
/-! ### Those that touch become one. -/
theorem cont_last {l : List Sp} {z : Sp} : (l ++ [z]).getLastD (0, []) = z := by simp [List.getLastD_eq_getLast?]
theorem sep_snoc : ∀ {l : List Sp} {a : Int} {z : Sp}, Sep a (l ++ [z]) ↔ Sep a l ∧ z.2 ≠ [] ∧ a < z.1 ∧ ∀ y ∈ l, y.1 + y.2.length < z.1 := by
 intro l
 induction l with
 | nil => intro a z; simp [Sep]; exact ⟨fun h => ⟨h.2, h.1⟩, fun h => ⟨h.2, h.1⟩⟩
 | cons x r ih =>
   intro a z
   rw [List.cons_append]
   unfold Sep
   rw [ih]
   constructor
   · rintro ⟨h1, h2, h3, h4, h5, h6⟩
     have := List.length_pos_iff.2 h2
     exact ⟨⟨h1, h2, h3⟩, h4, by omega, fun y hy => (List.mem_cons.1 hy).elim (fun e => e ▸ h5) (h6 y)⟩
   · rintro ⟨⟨h1, h2, h3⟩, h4, h5, h6⟩
     exact ⟨h1, h2, h3, h4, h6 x (List.mem_cons_self ..), fun y hy => h6 y (List.mem_cons_of_mem _ hy)⟩
theorem cont_two (x z : Sp) (hx : x.1 + x.2.length = z.1) (t : List Sp) (k : Nat) : cont ((x.1, x.2 ++ z.2) :: t) k = cont (x :: z :: t) k := by
 unfold cont
 by_cases h1 : cov x k
 · have h2 : cov (x.1, x.2 ++ z.2) k := by unfold cov at *; simp only [List.length_append]; omega
   rw [if_pos h1, if_pos h2]
   simp only
   rw [List.getElem?_append_left (by unfold cov at h1; omega)]
 · rw [if_neg h1]
   by_cases h3 : cov z k
   · have h2 : cov (x.1, x.2 ++ z.2) k := by unfold cov at *; simp only [List.length_append]; omega
     rw [if_pos h2]
     unfold cont
     rw [if_pos h3]
     simp only
     rw [List.getElem?_append_right (by unfold cov at h3; omega)]
     congr 1
     unfold cov at h3
     omega
   · have h2 : ¬ cov (x.1, x.2 ++ z.2) k := by unfold cov at *; simp only [List.length_append]; omega
     rw [if_neg h2]
     conv => rhs; unfold cont
     rw [if_neg h3]
theorem cont_app_congr (p : List Sp) {l l' : List Sp} {k : Nat} (h : cont l k = cont l' k) : cont (p ++ l) k = cont (p ++ l') k := by
 rw [cont_append, cont_append, h]
/-- The places where pieces end. -/
theorem merge_sep {a : Int} (ha : -1 ≤ a) : ∀ (l out : List Sp), Sep a out → (∀ y ∈ out, Ord (y.1 + y.2.length) l) → Ord (a + 1) l → Sep a (merge out l) ∧ ∀ k, cont (merge out l) k = cont (out ++ l) k := by
 intro l
 induction l with
 | nil => intro out h1 _ _; unfold merge; exact ⟨h1, fun k => by rw [List.append_nil]⟩
 | cons x r ih =>
   intro out h1 h2 h3
   unfold merge
   by_cases hm : out ≠ [] ∧ (out.getLastD (0, [])).1 + (out.getLastD (0, [])).2.length = x.1
   · rw [if_pos hm]
     obtain ⟨p, z, rfl⟩ : ∃ p z, out = p ++ [z] := ⟨out.dropLast, out.getLast hm.1, (List.dropLast_concat_getLast hm.1).symm⟩
     rw [cont_last] at hm ⊢
     rw [List.dropLast_concat]
     obtain ⟨s1, s2, s3, s4⟩ := sep_snoc.1 h1
     have hxo := h3
     unfold Ord at hxo
     have hz : Sep a (p ++ [(z.1, z.2 ++ x.2)]) := sep_snoc.2 ⟨s1, by simp [s2], s3, s4⟩
     obtain ⟨g1, g2⟩ := ih (p ++ [(z.1, z.2 ++ x.2)]) hz (fun y hy => by
       rcases List.mem_append.1 hy with hy | hy
       · have := h2 y (List.mem_append_left _ hy)
         unfold Ord at this
         have h4 := s4 y hy
         have hxp := List.length_pos_iff.2 hxo.2.1
         exact ord_mono (by have := this.1; omega) this.2.2
       · rw [List.mem_singleton.1 hy]
         simp only [List.length_append]
         exact ord_mono (by omega) hxo.2.2) (ord_mono (by have := List.length_pos_iff.2 hxo.2.1; have := hxo.1; omega) hxo.2.2)
     refine ⟨g1, fun k => ?_⟩
     rw [g2, List.append_assoc, List.append_assoc]
     exact cont_app_congr p (cont_two z x hm.2 r k)
   · rw [if_neg hm]
     have hxo := h3
     unfold Ord at hxo
     have hlast : ∀ y ∈ out, y.1 + y.2.length < x.1 := by
       by_cases ho : out = []
       · intro y hy; rw [ho] at hy; cases hy
       · obtain ⟨p, z, rfl⟩ : ∃ p z, out = p ++ [z] := ⟨out.dropLast, out.getLast ho, (List.dropLast_concat_getLast ho).symm⟩
         rw [cont_last] at hm
         obtain ⟨s1, s2, s3, s4⟩ := sep_snoc.1 h1
         have hz := h2 z (by simp)
         unfold Ord at hz
         have hzp := List.length_pos_iff.2 s2
         intro y hy
         rcases List.mem_append.1 hy with hy | hy
         · have := s4 y hy; have := hz.1; omega
         · rw [List.mem_singleton.1 hy]
           rcases Int.lt_or_eq_of_le hz.1 with g | g
           · exact g
           · exact absurd ⟨ho, g⟩ hm
     obtain ⟨g1, g2⟩ := ih (out ++ [x]) (sep_snoc.2 ⟨h1, hxo.2.1, by omega, hlast⟩) (fun y hy => by
       rcases List.mem_append.1 hy with hy | hy
       · have := h2 y hy
         unfold Ord at this
         have hxp := List.length_pos_iff.2 hxo.2.1
         have := hlast y hy
         exact ord_mono (by omega) hxo.2.2
       · rw [List.mem_singleton.1 hy]; exact hxo.2.2) (ord_mono (by have := List.length_pos_iff.2 hxo.2.1; have := hxo.1; omega) hxo.2.2)
     refine ⟨g1, fun k => ?_⟩
     rw [g2, List.append_assoc]; rfl
end Go.Proofs.Wi
end

section
/-
 What a part adds to a stream's pieces; the runs of what stands at each place. No program in sight.
-/
namespace Go.Proofs.Wi
theorem within_none {x : Sp} {a b : Int} (h : within x a b = none) (k : Nat) : ¬ (cov x k ∧ a ≤ k ∧ (k : Int) < b) := by
 unfold within at h
 split at h
 · rintro ⟨h1, h2, h3⟩
   unfold cov at h1
   omega
 · cases h
theorem within_some {x y : Sp} {a b : Int} (h : within x a b = some y) : y.1 = max x.1 a ∧ y.2.length = (min (x.1 + x.2.length) b - max x.1 a).toNat ∧ max x.1 a < min (x.1 + x.2.length) b ∧ ∀ i, i < y.2.length → y.2[i]? = x.2[(max x.1 a - x.1).toNat + i]? := by
 unfold within at h
 split at h
 · cases h
 · rename_i hlt
   cases h
   refine ⟨rfl, ?_, by omega, fun i hi => ?_⟩
   · simp only [List.length_take, List.length_drop]
     omega
   · simp only at hi ⊢
     rw [List.length_take] at hi
     rw [List.getElem?_take, if_pos (by omega), List.getElem?_drop]
theorem within_cov {x y : Sp} {a b : Int} (h : within x a b = some y) (k : Nat) : cov y k ↔ cov x k ∧ a ≤ k ∧ (k : Int) < b := by
 obtain ⟨h1, h2, h3, _⟩ := within_some h
 unfold cov
 rw [h1, h2]
 omega
theorem within_get {x y : Sp} {a b : Int} (h : within x a b = some y) {k : Nat} (hk : cov y k) : y.2[((k : Int) - y.1).toNat]? = x.2[((k : Int) - x.1).toNat]? := by
 obtain ⟨h1, h2, h3, h4⟩ := within_some h
 unfold cov at hk
 rw [h4 _ (by omega)]
 congr 1
 omega
theorem ord_append : ∀ {l l' : List Sp} {a : Int}, Ord a l → Ord a l' → (∀ x ∈ l, ∀ y ∈ l', x.1 + x.2.length ≤ y.1) → Ord a (l ++ l') := by
 intro l
 induction l with
 | nil => intro l' a _ h _; exact h
 | cons x r ih =>
   intro l' a h h' hx
   refine ⟨h.1, h.2.1, ih h.2.2 ?_ fun z hz y hy => hx z (List.mem_cons_of_mem _ hz) y hy⟩
   cases l' with
   | nil => trivial
   | cons y t => exact ⟨hx x (List.mem_cons_self ..) y (List.mem_cons_self ..), h'.2.1, h'.2.2⟩
theorem fresh_ord (x : Sp) : ∀ (had : List Sp) (a c : Int), Ord c had → Ord a (fresh x a had) := by
 intro had
 induction had with
 | nil =>
   intro a c _
   unfold fresh
   cases h : within x a (x.1 + x.2.length) with
   | none => trivial
   | some y =>
     obtain ⟨h1, h2, h3, _⟩ := within_some h
     exact ⟨by omega, fun e => by rw [e] at h2; simp at h2; omega, trivial⟩
 | cons h0 r ih =>
   intro a c ho
   unfold fresh
   have hr := ih (max a (h0.1 + h0.2.length)) _ ho.2.2
   refine ord_append ?_ (ord_mono (by omega) hr) ?_
   · cases h : within x a h0.1 with
     | none => trivial
     | some y =>
       obtain ⟨h1, h2, h3, _⟩ := within_some h
       exact ⟨by omega, fun e => by rw [e] at h2; simp at h2; omega, trivial⟩
   · intro y hy z hz
     cases h : within x a h0.1 with
     | none => rw [h] at hy; cases hy
     | some y0 =>
       rw [h] at hy
       obtain rfl : y = y0 := by simpa using hy
       obtain ⟨h1, h2, h3, _⟩ := within_some h
       have := hr.lo z hz
       omega
theorem fresh_dis (x : Sp) : ∀ (had : List Sp) (a c : Int), Ord c had → ∀ y ∈ fresh x a had, ∀ h ∈ had, dis y h := by
 intro had
 induction had with
 | nil => intro a c _ y _ h hh; cases hh
 | cons h0 r ih =>
   intro a c ho y hy h hh
   unfold fresh at hy
   rcases List.mem_append.1 hy with hy | hy
   · cases hw : within x a h0.1 with
     | none => rw [hw] at hy; cases hy
     | some y0 =>
       rw [hw] at hy
       obtain rfl : y = y0 := by simpa using hy
       obtain ⟨h1, h2, h3, _⟩ := within_some hw
       have hlo : h0.1 ≤ h.1 := by
         rcases List.mem_cons.1 hh with rfl | hh
         · exact Int.le_refl _
         · have := ho.2.2.lo h hh
           omega
       exact .inl (by omega)
   · rcases List.mem_cons.1 hh with rfl | hh
     · have := (fresh_ord x r _ _ ho.2.2).lo y hy
       exact .inr (by omega)
     · exact ih _ _ ho.2.2 y hy h hh
theorem fresh_cont (x : Sp) : ∀ (had : List Sp) (a c : Int), Ord c had → ∀ k, cont (fresh x a had) k = if cov x k ∧ a ≤ k ∧ cont had k = none then x.2[((k : Int) - x.1).toNat]? else none := by
 intro had
 induction had with
 | nil =>
   intro a c _ k
   unfold fresh
   cases h : within x a (x.1 + x.2.length) with
   | none =>
     have := within_none h k
     rw [if_neg (fun g => this ⟨g.1, g.2.1, by have := g.1; unfold cov at this; omega⟩)]; rfl
   | some y =>
     show cont [y] k = _
     unfold cont
     by_cases hc : cov y k
     · have := (within_cov h k).1 hc
       rw [if_pos hc, if_pos ⟨this.1, this.2.1, rfl⟩, within_get h hc]
     · rw [if_neg hc, if_neg (fun g => hc ((within_cov h k).2 ⟨g.1, g.2.1, by have := g.1; unfold cov at this; omega⟩))]; rfl
 | cons h0 r ih =>
   intro a c ho k
   unfold fresh
   rw [cont_append, ih _ _ ho.2.2 k]
   have hl : cont (within x a h0.1).toList k = if cov x k ∧ a ≤ k ∧ (k : Int) < h0.1 then x.2[((k : Int) - x.1).toNat]? else none := by
     cases h : within x a h0.1 with
     | none => rw [if_neg (within_none h k)]; rfl
     | some y =>
       show cont [y] k = _
       unfold cont
       by_cases hc : cov y k
       · rw [if_pos hc, if_pos ((within_cov h k).1 hc), within_get h hc]
       · rw [if_neg hc, if_neg (fun g => hc ((within_cov h k).2 g))]; rfl
   rw [hl]
   by_cases hx : cov x k ∧ a ≤ k
   · obtain ⟨v, hv⟩ := cov_some hx.1
     by_cases h1 : (k : Int) < h0.1
     · have ho' : Ord h0.1 (h0 :: r) := ⟨Int.le_refl _, ho.2.1, ho.2.2⟩
       have hn : cont (h0 :: r) k = none := ho'.none h1
       rw [hv, if_pos (show cov x k ∧ a ≤ k ∧ (k : Int) < h0.1 from ⟨hx.1, hx.2, h1⟩), if_pos (show cov x k ∧ a ≤ k ∧ cont (h0 :: r) k = none from ⟨hx.1, hx.2, hn⟩)]; rfl
     · rw [if_neg (fun g => h1 g.2.2), Option.none_or]
       by_cases h2 : cov h0 k
       · rw [if_neg (fun g => by have := g.2.1; unfold cov at h2; omega)]
         obtain ⟨u, hu⟩ := cov_some h2
         rw [if_neg (fun g => by have := g.2.2; unfold cont at this; rw [if_pos h2, hu] at this; cases this)]
       · have hc : cont (h0 :: r) k = cont r k := by conv => lhs; unfold cont; rw [if_neg h2]
         rw [hc]
         by_cases h3 : cont r k = none
         · rw [if_pos ⟨hx.1, by unfold cov at h2; omega, h3⟩, if_pos ⟨hx.1, hx.2, h3⟩]
         · rw [if_neg (fun g => h3 g.2.2), if_neg (fun g => h3 g.2.2)]
   · rw [if_neg (fun g => hx ⟨g.1, g.2.1⟩), if_neg (fun g => hx ⟨g.1, by have := g.2.1; omega⟩), if_neg (fun g => hx ⟨g.1, g.2.1⟩)]; rfl
/-- Sorted, nonempty and apart: in order. -/
theorem ord_of_sorted : ∀ {l : List Sp} {a : Int}, l.Pairwise (fun x y => x.1 ≤ y.1) → l.Pairwise dis → (∀ x ∈ l, x.2 ≠ [] ∧ a ≤ x.1) → Ord a l := by
 intro l
 induction l with
 | nil => intro a _ _ _; trivial
 | cons x r ih =>
   intro a h1 h2 h3
   obtain ⟨s1, s2⟩ := List.pairwise_cons.1 h1
   obtain ⟨d1, d2⟩ := List.pairwise_cons.1 h2
   obtain ⟨n1, n2⟩ := h3 x (List.mem_cons_self ..)
   refine ⟨n2, n1, ih s2 d2 fun y hy => ⟨(h3 y (List.mem_cons_of_mem _ hy)).1, ?_⟩⟩
   have hxp := List.length_pos_iff.2 n1
   have hyp := List.length_pos_iff.2 (h3 y (List.mem_cons_of_mem _ hy)).1
   have := s1 y hy
   have hd := d1 y hy
   unfold dis at hd
   omega
theorem chkL_sep {room : Int} : ∀ {l : List Sp} {a : Int}, 0 ≤ a → (chkL room a l = true ↔ Sep a l ∧ ∀ x ∈ l, x.1 + x.2.length ≤ room) := by
 intro l
 induction l with
 | nil => intro a _; simp [chkL, Sep]
 | cons x r ih =>
   intro a ha
   unfold chkL
   by_cases h : x.2.length = 0 ∨ room < x.2.length ∨ x.1 ≤ a ∨ room - x.2.length < x.1
   · rw [if_pos h]
     constructor
     · intro g; cases g
     · rintro ⟨⟨g1, g2, g3⟩, g4⟩
       exfalso
       have := List.length_pos_iff.2 g2
       have := g4 x (List.mem_cons_self ..)
       omega
   · rw [if_neg h, ih (by omega)]
     have hne : x.2 ≠ [] := fun e => h (.inl (by rw [e]; rfl))
     constructor
     · rintro ⟨g1, g2⟩
       exact ⟨⟨by omega, hne, g1⟩, fun y hy => (List.mem_cons.1 hy).elim (fun e => e ▸ by omega) (g2 y)⟩
     · rintro ⟨⟨g1, g2, g3⟩, g4⟩
       exact ⟨g3, fun y hy => g4 y (List.mem_cons_of_mem _ hy)⟩
/-! ### The runs of what stands at each place. -/
def runsStep (g : Nat → Option Nat) (k : Nat) (out : List Sp) : List Sp :=
 match g k with
 | none => out
 | some v => if (g (k - 1)).isSome then out.dropLast ++ [((out.getLastD (0, [])).1, (out.getLastD (0, [])).2 ++ [v])] else out ++ [((k : Int), [v])]
structure RunInv (g : Nat → Option Nat) (n k : Nat) (out : List Sp) : Prop where
 sep : Sep n out
 le : ∀ y ∈ out, y.1 + y.2.length ≤ k
 lo : n ≤ k
 last : n < k → (g (k - 1)).isSome → ∃ (p : List Sp) (z : Sp), out = p ++ [z] ∧ z.1 + z.2.length = (k : Int)
 gap : (k = n ∨ g (k - 1) = none) → ∀ y ∈ out, y.1 + y.2.length < k
 cont : ∀ j, cont out j = if n ≤ j ∧ j < k then g j else none
theorem RunInv.start (g : Nat → Option Nat) (n : Nat) : RunInv g n n [] :=
 ⟨trivial, fun _ h => (List.not_mem_nil h).elim, Nat.le_refl _, fun h => absurd h (Nat.lt_irrefl _), fun _ _ h => (List.not_mem_nil h).elim, fun j => by rw [if_neg (by omega)]; rfl⟩
theorem cont_one (k v j : Nat) : Wi.cont [((k : Int), [v])] j = if j = k then some v else none := by
 unfold Wi.cont
 by_cases h : j = k
 · subst h
   rw [if_pos (by unfold cov; simp only [List.length_cons, List.length_nil]; omega), if_pos rfl]
   simp
 · rw [if_neg (by unfold cov; simp; omega), if_neg h]; rfl
theorem RunInv.step {g : Nat → Option Nat} {n k : Nat} {out : List Sp} (h : RunInv g n k out) (hn : g n = none) : RunInv g n (k + 1) (runsStep g k out) := by
 have hlo := h.lo
 unfold runsStep
 cases hg : g k with
 | none =>
   dsimp only
   refine ⟨h.sep, fun y hy => by have := h.le y hy; omega, by omega, fun _ hs => ?_, fun _ y hy => by have := h.le y hy; omega, fun j => ?_⟩
   · rw [Nat.add_sub_cancel, hg] at hs; cases hs
   · rw [h.cont j]
     by_cases hj : n ≤ j ∧ j < k
     · rw [if_pos hj, if_pos (by omega)]
     · rw [if_neg hj]
       by_cases e : j = k
       · subst e
         split
         · exact hg.symm
         · rfl
       · rw [if_neg (by omega)]
 | some v =>
   dsimp only
   have hkn : n < k := by
     rcases Nat.lt_or_eq_of_le hlo with e | e
     · exact e
     · rw [← e, hn] at hg; cases hg
   have hcont : ∀ j, (Wi.cont out j).or (Wi.cont [((k : Int), [v])] j) = if n ≤ j ∧ j < k + 1 then g j else none := fun j => by
     rw [h.cont j, cont_one]
     by_cases e : j = k
     · subst e
       rw [if_neg (by omega), if_pos rfl, if_pos (by omega), hg]; rfl
     · rw [if_neg e, Option.or_none]
       by_cases hj : n ≤ j ∧ j < k
       · rw [if_pos hj, if_pos (by omega)]
       · rw [if_neg hj, if_neg (by omega)]
   by_cases hs : (g (k - 1)).isSome = true
   · rw [if_pos hs]
     obtain ⟨p, z, rfl, hz⟩ := h.last hkn hs
     rw [cont_last, List.dropLast_concat]
     obtain ⟨s1, s2, s3, s4⟩ := sep_snoc.1 h.sep
     refine ⟨sep_snoc.2 ⟨s1, by simp, s3, s4⟩, fun y hy => ?_, by omega, fun _ _ => ⟨p, _, rfl, by simp only [List.length_append, List.length_cons, List.length_nil]; omega⟩, fun hgap => ?_, fun j => ?_⟩
     · rcases List.mem_append.1 hy with hy | hy
       · have := h.le y (List.mem_append_left _ hy); omega
       · rw [List.mem_singleton.1 hy]
         simp only [List.length_append, List.length_cons, List.length_nil]
         omega
     · rcases hgap with e | e
       · omega
       · rw [Nat.add_sub_cancel, hg] at e; cases e
     · have e1 := cont_two z ((k : Int), [v]) hz [] j
       have e2 : Wi.cont (p ++ [(z.1, z.2 ++ [v])]) j = Wi.cont (p ++ (z :: [((k : Int), [v])])) j := cont_app_congr p e1
       rw [e2, show p ++ (z :: [((k : Int), [v])]) = (p ++ [z]) ++ [((k : Int), [v])] by simp, cont_append]
       exact hcont j
   · rw [if_neg hs]
     have hs0 : g (k - 1) = none := by
       cases e : g (k - 1) with
       | none => rfl
       | some u => rw [e] at hs; exact absurd rfl hs
     have hgap := h.gap (.inr hs0)
     refine ⟨sep_snoc.2 ⟨h.sep, by simp, by simp only; omega, hgap⟩, fun y hy => ?_, by omega, fun _ _ => ⟨out, _, rfl, by simp only [List.length_cons, List.length_nil]; omega⟩, fun hgap => ?_, fun j => ?_⟩
     · rcases List.mem_append.1 hy with hy | hy
       · have := h.le y hy; omega
       · rw [List.mem_singleton.1 hy]
         simp only [List.length_cons, List.length_nil]
         omega
     · rcases hgap with e | e
       · omega
       · rw [Nat.add_sub_cancel, hg] at e; cases e
     · rw [cont_append]
       exact hcont j
/-- What comes out, and what stays. -/
theorem head_split {j : List Sp} (h : Sep (-1) j) : ∃ (b : List Nat) (rest : List Sp), ((b ≠ [] ∧ j = (0, b) :: rest) ∨ (b = [] ∧ j = rest)) ∧ Sep b.length rest ∧ (∀ k, k < b.length → cont j k = b[k]?) ∧ cont j b.length = none ∧ ∀ k, cont rest k = if b.length ≤ k then cont j k else none := by
 cases j with
 | nil => exact ⟨[], [], .inr ⟨rfl, rfl⟩, trivial, fun k hk => (by simp at hk), rfl, fun k => (if_pos (Nat.zero_le _)).symm⟩
 | cons x r =>
   obtain ⟨h1, h2, h3⟩ := h
   by_cases h0 : x.1 = 0
   · obtain ⟨x1, b⟩ := x
     simp only at h0 h2 h3
     subst h0
     rw [Int.zero_add] at h3
     have c1 : ∀ k, k < b.length → cont ((0, b) :: r) k = b[k]? := fun k hk => by
       unfold cont
       rw [if_pos (by unfold cov; simp only; omega)]
       congr 1
     have c2 : ∀ k, b.length ≤ k → cont ((0, b) :: r) k = cont r k := fun k hk => by
       conv => lhs; unfold cont
       rw [if_neg (by unfold cov; simp only; omega)]
     refine ⟨b, r, .inl ⟨h2, rfl⟩, h3, c1, by rw [c2 _ (Nat.le_refl _)]; exact h3.none (Int.le_refl _), fun k => ?_⟩
     by_cases hk : b.length ≤ k
     · rw [if_pos hk, c2 k hk]
     · rw [if_neg hk]; exact h3.none (by omega)
   · have hs : Sep 0 (x :: r) := ⟨by omega, h2, h3⟩
     exact ⟨[], x :: r, .inr ⟨rfl, rfl⟩, hs, fun k hk => (by simp at hk), hs.none (by simp), fun k => (if_pos (Nat.zero_le _)).symm⟩
end Go.Proofs.Wi
end

section
/-
 What a stream becomes as a part comes. No program in sight.
-/
namespace Go.Proofs.Wi
def part (s : St) (seq : Nat) (data : List Nat) : Sp := (dif seq s.next, data.take 4096)
/-- What stands at each place from the next byte on, once the part came. -/
def gF (s : St) (seq : Nat) (data : List Nat) (k : Nat) : Option Nat :=
 if (k : Int) < room s then (cont (spans s) k).or (if cov (part s seq data) k then (part s seq data).2[((k : Int) - (part s seq data).1).toNat]? else none) else none
def allL (s : St) (seq : Nat) (data : List Nat) : List Sp :=
 spans s ++ (match within (part s seq data) 0 (room s) with
   | some x => fresh x x.1 (spans s)
   | none => [])
theorem chk_spans {s : St} (h : chk s = true) : Sep 0 (spans s) ∧ (∀ x ∈ spans s, x.1 + x.2.length ≤ room s) ∧ room s = 256 - s.bytes.length ∧ s.bytes.length ≤ 256 := by
 have hr : room s = 256 - s.bytes.length := by unfold room; rw [h, if_pos rfl]
 unfold chk at h
 by_cases hb : 256 < s.bytes.length
 · rw [if_pos hb] at h; cases h
 · rw [if_neg hb] at h
   have := (chkL_sep (Int.le_refl 0)).1 h
   exact ⟨this.1, by rw [hr]; exact this.2, hr, by omega⟩
theorem all_cont {s : St} (h : chk s = true) (seq : Nat) (data : List Nat) : (allL s seq data).Pairwise dis ∧ (∀ x ∈ allL s seq data, x.2 ≠ [] ∧ 0 ≤ x.1 ∧ x.1 + x.2.length ≤ room s) ∧ ∀ k, cont (allL s seq data) k = gF s seq data k := by
 obtain ⟨h1, h2, h3, h4⟩ := chk_spans h
 have hne : ∀ {a : Int} {l : List Sp}, Ord a l → ∀ x ∈ l, x.2 ≠ [] := fun {a l} ho x hx => by
   induction l generalizing a with
   | nil => cases hx
   | cons y r ih => exact (List.mem_cons.1 hx).elim (fun e => e ▸ ho.2.1) (ih ho.2.2)
 have hout : ∀ k : Nat, ¬ (k : Int) < room s → cont (spans s) k = none := fun k hk => cont_none fun x hx hc => by
   have := h2 x hx
   unfold cov at hc
   omega
 unfold allL
 cases hw : within (part s seq data) 0 (room s) with
 | none =>
   refine ⟨by rw [List.append_nil]; exact h1.ord.dis, fun x hx => ?_, fun k => ?_⟩
   · rw [List.append_nil] at hx
     exact ⟨hne h1.ord x hx, h1.ord.lo x hx, h2 x hx⟩
   · rw [List.append_nil]
     unfold gF
     by_cases hk : (k : Int) < room s
     · rw [if_pos hk, if_neg (fun hc => within_none hw k ⟨hc, by omega, hk⟩), Option.or_none]
     · rw [if_neg hk, hout k hk]
 | some x =>
   obtain ⟨w1, w2, w3, w4⟩ := within_some hw
   have fo := fresh_ord x (spans s) x.1 0 h1.ord
   have fd := fresh_dis x (spans s) x.1 0 h1.ord
   have fc := fresh_cont x (spans s) x.1 0 h1.ord
   refine ⟨List.pairwise_append.2 ⟨h1.ord.dis, fo.dis, fun y hy z hz => dis_symm (fd z hz y hy)⟩, fun y hy => ?_, fun k => ?_⟩
   · rcases List.mem_append.1 hy with hy | hy
     · exact ⟨hne h1.ord y hy, h1.ord.lo y hy, h2 y hy⟩
     · have n1 := hne fo y hy
       have n2 := fo.lo y hy
       refine ⟨n1, by omega, ?_⟩
       -- the last place of y is one of x
       have hyp := List.length_pos_iff.2 n1
       have hc : cov y (y.1 + y.2.length - 1).toNat := by unfold cov; omega
       have hs := cont_of_mem fo.dis hy hc
       obtain ⟨v, hv⟩ := cov_some hc
       rw [hv, fc] at hs
       by_cases hg : cov x (y.1 + y.2.length - 1).toNat ∧ x.1 ≤ ((y.1 + y.2.length - 1).toNat : Nat) ∧ cont (spans s) (y.1 + y.2.length - 1).toNat = none
       · have := hg.1
         unfold cov at this
         omega
       · rw [if_neg hg] at hs; cases hs
   · rw [cont_append, fc]
     unfold gF
     by_cases hk : (k : Int) < room s
     · rw [if_pos hk]
       have hcov : cov x k ↔ cov (part s seq data) k := by rw [within_cov hw k]; exact ⟨fun g => g.1, fun g => ⟨g, by omega, hk⟩⟩
       cases hcs : cont (spans s) k with
       | some v => rfl
       | none =>
         simp only [Option.none_or]
         by_cases hc : cov x k
         · rw [if_pos ⟨hc, by unfold cov at hc; omega, trivial⟩, if_pos (hcov.1 hc), within_get hw hc]
         · rw [if_neg (fun g => hc g.1), if_neg (fun g => hc (hcov.2 g))]
     · rw [if_neg hk, hout k hk]
       rw [if_neg (fun g => by have := (within_cov hw k).1 g.1; omega)]; rfl
/-- What of it comes out, and what stays. -/
structure Took (g : Nat → Option Nat) (b : List Nat) (rest : List Sp) : Prop where
 sep : Sep b.length rest
 get : ∀ k, k < b.length → g k = b[k]?
 stop : g b.length = none
 cont : ∀ k, cont rest k = if b.length ≤ k then g k else none
theorem Took.unique {g : Nat → Option Nat} {b b' : List Nat} {rest rest' : List Sp} (h : Took g b rest) (h' : Took g b' rest') : b = b' ∧ rest = rest' := by
 have hl : b.length = b'.length := by
   rcases Nat.lt_trichotomy b.length b'.length with e | e | e
   · have := h'.get _ e
     rw [h.stop, List.getElem?_eq_getElem e] at this; cases this
   · exact e
   · have := h.get _ e
     rw [h'.stop, List.getElem?_eq_getElem e] at this; cases this
 refine ⟨List.ext_getElem? fun i => ?_, sep_unique (a := b.length) (by omega) h.sep (hl ▸ h'.sep) fun k => ?_⟩
 · by_cases hi : i < b.length
   · rw [← h.get i hi, ← h'.get i (by omega)]
   · rw [List.getElem?_eq_none (by omega), List.getElem?_eq_none (by omega)]
 · rw [h.cont, h'.cont, hl]
/-- By sorting and merging. -/
theorem took_of_merge {s : St} (h : chk s = true) {seq : Nat} {data : List Nat} {srt : List Sp} (hp : srt.Perm (allL s seq data)) (hs : srt.Pairwise fun x y => x.1 ≤ y.1) :
   ∃ b rest, ((b ≠ [] ∧ merge [] srt = (0, b) :: rest) ∨ (b = [] ∧ merge [] srt = rest)) ∧ Took (gF s seq data) b rest := by
 obtain ⟨a1, a2, a3⟩ := all_cont h seq data
 have hd : srt.Pairwise dis := hp.symm.pairwise_iff (fun h => dis_symm h) |>.1 a1
 have ho : Ord 0 srt := ord_of_sorted hs hd fun x hx => by
   have := a2 x (hp.mem_iff.1 hx)
   exact ⟨this.1, this.2.1⟩
 obtain ⟨m1, m2⟩ := merge_sep (a := -1) (Int.le_refl _) srt [] trivial (fun _ h => (List.not_mem_nil h).elim) (by simpa using ho)
 have hg : ∀ k, cont (merge [] srt) k = gF s seq data k := fun k => by
   rw [m2 k, List.nil_append, cont_perm hp hd k, a3]
 obtain ⟨b, rest, e, h1, h2, h3, h4⟩ := head_split m1
 exact ⟨b, rest, e, h1, fun k hk => by rw [← hg]; exact h2 k hk, by rw [← hg]; exact h3, fun k => by rw [h4 k, hg]⟩
theorem gF_out {s : St} {seq : Nat} {data : List Nat} {k : Nat} (h : ¬ (k : Int) < room s) : gF s seq data k = none := by
 unfold gF; exact if_neg h
/-- The stream behind it. -/
def outS (s : St) (b : List Nat) (rest : List Sp) : St := ⟨(s.next + b.length) % 4294967296, s.bytes ++ b, rest.map fun x => ((s.next + x.1.toNat) % 4294967296, x.2)⟩
end Go.Proofs.Wi
end

section
/-
 Streams as parts come again, in whatever order, and as they are read. No program in sight.
-/
namespace Go.Proofs.Wi
theorem dif_eq {a b : Nat} {c : Int} (h : ((a : Int) - b - c) % 4294967296 = 0) (h1 : -2147483648 ≤ c) (h2 : c < 2147483648) : dif a b = c := by
 unfold dif; split <;> omega
theorem dif_mod (a b : Nat) : ((a : Int) - b - dif a b) % 4294967296 = 0 := by
 unfold dif; split <;> omega
theorem dif_rng (a b : Nat) : -2147483648 ≤ dif a b ∧ dif a b < 2147483648 := by
 unfold dif; split <;> omega
def shiftN (n : Nat) (l : List Sp) : List Sp := l.map fun x => (x.1 - (n : Int), x.2)
theorem shift_sep {n : Nat} : ∀ {l : List Sp} {a : Int}, Sep a l → Sep (a - (n : Int)) (shiftN n l) := by
 intro l
 induction l with
 | nil => intro a _; trivial
 | cons x r ih =>
   intro a h
   refine ⟨?_, h.2.1, ?_⟩
   · have := h.1
     show a - (n : Int) < x.1 - (n : Int)
     omega
   · have := ih h.2.2
     show Sep (x.1 - (n : Int) + x.2.length) (shiftN n r)
     rw [show x.1 - (n : Int) + (x.2.length : Int) = x.1 + x.2.length - (n : Int) from by omega]
     exact this
theorem shift_cont {n : Nat} (k : Nat) : ∀ (l : List Sp), cont (shiftN n l) k = cont l (k + n) := by
 intro l
 induction l with
 | nil => rfl
 | cons x r ih =>
   show cont ((x.1 - (n : Int), x.2) :: shiftN n r) k = cont (x :: r) (k + n)
   rw [cont_cons, cont_cons, ih]
   have hc : cov (x.1 - (n : Int), x.2) k ↔ cov x (k + n) := by unfold cov; simp only; omega
   have hi : ((k : Int) - (x.1 - (n : Int))).toNat = (((k + n : Nat) : Int) - x.1).toNat := by omega
   by_cases h : cov x (k + n)
   · rw [if_pos h, if_pos (hc.2 h)]
     simp only [hi]
   · rw [if_neg h, if_neg (fun g => h (hc.1 g))]
theorem took_in {g : Nat → Option Nat} {r : Nat} (hg : ∀ k, r ≤ k → g k = none) {b : List Nat} {rest : List Sp} (h : Took g b rest) : b.length ≤ r ∧ ∀ x ∈ rest, x.1 + x.2.length ≤ r := by
 refine ⟨?_, fun x hx => ?_⟩
 · rcases Nat.lt_or_ge r b.length with e | e
   · have := h.get r e
     rw [hg r (Nat.le_refl _), List.getElem?_eq_getElem e] at this; cases this
   · exact e
 · have h1 := h.sep.lo x hx
   have n1 : x.2 ≠ [] := by
     have : ∀ {l : List Sp} {a : Int}, Sep a l → ∀ x ∈ l, x.2 ≠ [] := by
       intro l
       induction l with
       | nil => intro a _ x hx; cases hx
       | cons y r ih => intro a ho x hx; exact (List.mem_cons.1 hx).elim (fun e => e ▸ ho.2.1) (ih ho.2.2 x)
     exact this h.sep x hx
   have hp := List.length_pos_iff.2 n1
   have hc : cov x (x.1 + x.2.length - 1).toNat := by unfold cov; omega
   have hs := cont_of_mem h.sep.ord.dis hx hc
   obtain ⟨v, hv⟩ := cov_some hc
   rw [hv, h.cont] at hs
   rcases Nat.lt_or_ge (x.1 + x.2.length - 1).toNat r with e | e
   · omega
   · rw [hg _ e] at hs
     split at hs <;> cases hs
theorem room_nn {s : St} (h : chk s = true) : 0 ≤ room s ∧ room s = 256 - s.bytes.length ∧ s.bytes.length ≤ 256 := by
 obtain ⟨_, _, h3, h4⟩ := chk_spans h
 exact ⟨by omega, h3, h4⟩
theorem gF_none {s : St} {seq : Nat} {data : List Nat} (h : chk s = true) : ∀ k, (room s).toNat ≤ k → gF s seq data k = none := fun k hk => gF_out (by have := room_nn h; omega)
/-- The stream that comes out may be; what stands there. -/
theorem out_ok {s : St} (hc : chk s = true) {seq : Nat} {data b : List Nat} {rest : List Sp} (h : Took (gF s seq data) b rest) :
   chk (outS s b rest) = true ∧ spans (outS s b rest) = shiftN b.length rest ∧ room (outS s b rest) = room s - b.length ∧ (∀ k, cont (spans (outS s b rest)) k = gF s seq data (k + b.length)) ∧ s.bytes.length + b.length ≤ 256 := by
 obtain ⟨r0, r1, r2⟩ := room_nn hc
 obtain ⟨t1, t2⟩ := took_in (gF_none hc) h
 have hsp : spans (outS s b rest) = shiftN b.length rest := by
   unfold spans outS shiftN
   simp only [List.map_map]
   apply List.map_congr_left
   intro x hx
   have g1 := h.sep.lo x hx
   have g2 := t2 x hx
   simp only [Function.comp]
   congr 1
   exact dif_eq (by omega) (by omega) (by omega)
 have hbl : (outS s b rest).bytes.length = s.bytes.length + b.length := by unfold outS; simp
 have hsep : Sep 0 (spans (outS s b rest)) := by
   rw [hsp]
   have := shift_sep (n := b.length) h.sep
   rwa [Int.sub_self] at this
 have hck : chk (outS s b rest) = true := by
   unfold chk
   rw [hbl, if_neg (by omega)]
   refine (chkL_sep (Int.le_refl 0)).2 ⟨hsep, fun x hx => ?_⟩
   rw [hsp] at hx
   obtain ⟨y, hy, rfl⟩ := List.mem_map.1 hx
   have := t2 y hy
   simp only
   omega
 refine ⟨hck, hsp, ?_, fun k => ?_, by omega⟩
 · have := (room_nn hck).2.1
   rw [hbl] at this
   omega
 · rw [hsp, shift_cont, h.cont, if_pos (by omega)]
/-- A part that brings nothing new. -/
theorem take_nothing {a : St} (hc : chk a = true) (hn : a.next < 4294967296) (hp : ∀ p ∈ a.ps, p.1 < 4294967296) {seq : Nat} {data b : List Nat} {rest : List Sp} (hg : ∀ k : Nat, (k : Int) < room a → cont (spans a) k = none → ¬ cov (part a seq data) k) (h : Took (gF a seq data) b rest) : b = [] ∧ outS a b rest = a := by
 obtain ⟨s1, s2, s3, s4⟩ := chk_spans hc
 have hgF : ∀ k, gF a seq data k = cont (spans a) k := fun k => by
   unfold gF
   by_cases hk : (k : Int) < room a
   · rw [if_pos hk]
     cases hcs : cont (spans a) k with
     | some v => rfl
     | none => rw [Option.none_or, if_neg (hg k hk hcs)]
   · rw [if_neg hk]
     refine (cont_none fun x hx hcv => ?_).symm
     have := s2 x hx
     unfold cov at hcv
     omega
 have ht : Took (gF a seq data) [] (spans a) := ⟨s1, fun k hk => absurd hk (Nat.not_lt_zero _), by rw [hgF]; exact s1.none (by simp), fun k => by rw [hgF]; exact (if_pos (Nat.zero_le _)).symm⟩
 obtain ⟨rfl, rfl⟩ := h.unique ht
 refine ⟨rfl, ?_⟩
 obtain ⟨nx, bs, ps⟩ := a
 unfold outS spans
 simp only [List.length_nil, Nat.add_zero, List.append_nil, List.map_map]
 have e : ps.map ((fun x : Sp => ((nx + x.1.toNat) % 4294967296, x.2)) ∘ fun p : Nat × List Nat => (dif p.1 nx, p.2)) = ps := by
   conv => rhs; rw [← List.map_id ps]
   apply List.map_congr_left
   intro p hp'
   have g1 := hp p hp'
   have g2 := s1.lo (dif p.1 nx, p.2) (List.mem_map.2 ⟨p, hp', rfl⟩)
   have g3 := dif_mod p.1 nx
   have g4 := dif_rng p.1 nx
   simp only [Function.comp, id]
   simp only at g1 g2 hn
   have : (nx + (dif p.1 nx).toNat) % 4294967296 = p.1 := by omega
   rw [this]
 rw [e, Nat.mod_eq_of_lt hn]
theorem out_lt (s : St) (b : List Nat) (rest : List Sp) : (outS s b rest).next < 4294967296 ∧ ∀ p ∈ (outS s b rest).ps, p.1 < 4294967296 := by
 refine ⟨Nat.mod_lt _ (by decide), fun p hp => ?_⟩
 obtain ⟨x, _, rfl⟩ := List.mem_map.1 hp
 exact Nat.mod_lt _ (by decide)
/-- What came comes to nothing when it comes again. -/
theorem once {s : St} (hc : chk s = true) {seq : Nat} {data other b b2 : List Nat} {rest rest2 : List Sp} (h : Took (gF s seq data) b rest) (ho : other.length ≤ data.length) (h2 : Took (gF (outS s b rest) seq other) b2 rest2) : b2 = [] ∧ outS (outS s b rest) b2 rest2 = outS s b rest := by
 obtain ⟨o1, o2, o3, o4, o5⟩ := out_ok hc h
 refine take_nothing o1 (out_lt s b rest).1 (out_lt s b rest).2 (fun k hk hn hcv => ?_) h2
 rw [o4] at hn
 have hrs := room_nn hc
 have hr : ((k + b.length : Nat) : Int) < room s := by omega
 have hcv2 : cov (part s seq data) (k + b.length) := by
   unfold cov part at hcv ⊢
   simp only [List.length_take] at hcv ⊢
   have d1 := dif_mod seq s.next
   have d2 := dif_rng seq s.next
   have d3 := dif_mod seq (outS s b rest).next
   have d4 := dif_rng seq (outS s b rest).next
   have d5 : (outS s b rest).next = (s.next + b.length) % 4294967296 := rfl
   omega
 unfold gF at hn
 rw [if_pos hr, if_pos hcv2] at hn
 obtain ⟨v, hv⟩ := cov_some hcv2
 rw [hv] at hn
 cases hcs : cont (spans s) (k + b.length) with
 | none => rw [hcs] at hn; cases hn
 | some u => rw [hcs] at hn; cases hn
/-- A stream agrees with all of one: so far p bytes came in order. -/
structure Agr (all : List Nat) (next : Nat) (s : St) (p : Nat) : Prop where
 ok : chk s = true
 pos : p ≤ all.length
 nxt : s.next = (next + p) % 4294967296
 ag : ∀ k v, cont (spans s) k = some v → all[p + k]? = some v
theorem Agr.start (all : List Nat) (next : Nat) (hn : next < 4294967296) : Agr all next ⟨next, [], []⟩ 0 :=
 ⟨rfl, Nat.zero_le _, (Nat.mod_eq_of_lt hn).symm, fun k v h => by cases h⟩
/-- Read. -/
theorem Agr.read {all : List Nat} {next p : Nat} {s : St} (h : Agr all next s p) (k : Nat) : Agr all next ⟨s.next, s.bytes.drop k, s.ps⟩ p := by
 obtain ⟨s1, s2, s3, s4⟩ := chk_spans h.ok
 refine ⟨?_, h.pos, h.nxt, h.ag⟩
 unfold chk
 simp only [List.length_drop]
 rw [if_neg (by omega)]
 refine (chkL_sep (Int.le_refl 0)).2 ⟨s1, fun x hx => ?_⟩
 have := s2 x hx
 omega
/-- Is a place there? -/
def Has (s : St) (p j : Nat) : Prop := j < p ∨ ∃ v, cont (spans s) (j - p) = some v
theorem Agr.take {all : List Nat} {next p : Nat} {s : St} (h : Agr all next s p) (hl : all.length ≤ 1000) {fr n : Nat} (hf : fr + n ≤ all.length) {b : List Nat} {rest : List Sp}
   (ht : Took (gF s ((next + fr) % 4294967296) ((all.drop fr).take n)) b rest) : Agr all next (outS s b rest) (p + b.length) ∧ b = (all.drop p).take b.length ∧ (∀ j, Has s p j → Has (outS s b rest) (p + b.length) j) ∧ ∀ j, fr ≤ j → j < fr + n → (j : Int) - p < room s → Has (outS s b rest) (p + b.length) j := by
 obtain ⟨o1, o2, o3, o4, o5⟩ := out_ok h.ok ht
 have hrm := room_nn h.ok
 have hd : dif ((next + fr) % 4294967296) s.next = (fr : Int) - p := by
   have := h.nxt
   have := h.pos
   exact dif_eq (by omega) (by omega) (by omega)
 have hln : ((all.drop fr).take n).length = n := by rw [List.length_take, List.length_drop]; omega
 have hpt : part s ((next + fr) % 4294967296) ((all.drop fr).take n) = ((fr : Int) - p, (all.drop fr).take n) := by
   unfold part
   rw [hd, List.take_of_length_le (by rw [hln]; omega)]
 have key : ∀ k v, gF s ((next + fr) % 4294967296) ((all.drop fr).take n) k = some v → all[p + k]? = some v := fun k v hk => by
   unfold gF at hk
   by_cases hr : (k : Int) < room s
   · rw [if_pos hr] at hk
     cases hcs : cont (spans s) k with
     | some u =>
       rw [hcs] at hk
       cases hk
       exact h.ag k _ hcs
     | none =>
       rw [hcs, Option.none_or, hpt] at hk
       by_cases hcv : cov ((fr : Int) - p, (all.drop fr).take n) k
       · rw [if_pos hcv] at hk
         unfold cov at hcv
         simp only [hln] at hcv
         simp only at hk
         rw [List.getElem?_take, if_pos (by omega), List.getElem?_drop] at hk
         rw [← hk]
         congr 1
         omega
       · rw [if_neg hcv] at hk; cases hk
   · rw [if_neg hr] at hk; cases hk
 have hbg : ∀ k, k < b.length → all[p + k]? = b[k]? := fun k hk => by
   have h1 := ht.get k hk
   rw [List.getElem?_eq_getElem hk] at h1 ⊢
   exact key k _ h1
 have hpl : p + b.length ≤ all.length := by
   rcases Nat.eq_zero_or_pos b.length with e | e
   · have := h.pos; omega
   · have := hbg (b.length - 1) (by omega)
     rw [List.getElem?_eq_getElem (by omega : b.length - 1 < b.length)] at this
     have := (List.getElem?_eq_some_iff.1 this).1
     omega
 refine ⟨⟨o1, hpl, ?_, fun k v hk => ?_⟩, ?_, fun j hj => ?_, fun j h1 h2 h3 => ?_⟩
 · have := h.nxt
   show (s.next + b.length) % 4294967296 = _
   omega
 · rw [o4] at hk
   have := key _ v hk
   rw [← this]
   congr 1
   omega
 · refine List.ext_getElem? fun i => ?_
   by_cases hi : i < b.length
   · rw [List.getElem?_take, if_pos hi, List.getElem?_drop, hbg i hi]
   · rw [List.getElem?_eq_none (by omega), List.getElem?_eq_none (by rw [List.length_take]; omega)]
 · rcases Nat.lt_or_ge j (p + b.length) with e | e
   · exact .inl e
   · refine .inr ?_
     rcases hj with hj | ⟨v, hv⟩
     · omega
     · refine ⟨v, ?_⟩
       rw [o4, show j - (p + b.length) + b.length = j - p from by omega]
       have hr : ((j - p : Nat) : Int) < room s := by
         rcases Int.lt_or_le ((j - p : Nat) : Int) (room s) with g | g
         · exact g
         · rw [cont_none (fun x hx hcv => by
             have := (chk_spans h.ok).2.1 x hx
             unfold cov at hcv
             omega)] at hv
           cases hv
       unfold gF
       rw [if_pos hr, hv]; rfl
 · rcases Nat.lt_or_ge j (p + b.length) with e | e
   · exact .inl e
   · refine .inr ?_
     rw [o4, show j - (p + b.length) + b.length = j - p from by omega]
     unfold gF
     rw [if_pos (by omega), hpt]
     have hcv : cov ((fr : Int) - p, (all.drop fr).take n) (j - p) := by unfold cov; simp only [hln]; omega
     rw [if_pos hcv]
     obtain ⟨v, hv⟩ := cov_some hcv
     rw [hv]
     cases cont (spans s) (j - p) with
     | none => exact ⟨v, rfl⟩
     | some u => exact ⟨u, rfl⟩
/-- All came. -/
theorem Agr.all {all : List Nat} {next p : Nat} {s : St} (h : Agr all next s p) (hh : ∀ j, j < all.length → Has s p j) : p = all.length ∧ s.ps = [] := by
 obtain ⟨s1, s2, s3, s4⟩ := chk_spans h.ok
 have hp : p = all.length := by
   rcases Nat.lt_or_ge p all.length with e | e
   · rcases hh p e with g | ⟨v, g⟩
     · omega
     · rw [Nat.sub_self, s1.none (by simp)] at g; cases g
   · have := h.pos; omega
 refine ⟨hp, ?_⟩
 have hsp : spans s = [] := by
   cases hs : spans s with
   | nil => rfl
   | cons x r =>
     exfalso
     have g1 := s1.lo x (by rw [hs]; simp)
     have n1 : x.2 ≠ [] := by rw [hs] at s1; exact s1.2.1
     have hpos := List.length_pos_iff.2 n1
     have hc : cov x (x.1).toNat := by unfold cov; omega
     obtain ⟨v, hv⟩ := cov_some hc
     have := cont_of_mem s1.ord.dis (show x ∈ spans s by rw [hs]; simp) hc
     rw [hv] at this
     have := h.ag _ _ this
     have := (List.getElem?_eq_some_iff.1 this).1
     omega
 exact List.map_eq_nil_iff.1 hsp
end Go.Proofs.Wi
end

section
/-
 Connections in plain words (layer 26). No program in sight.
-/
namespace Go.Proofs.Tp
open Go.Proofs.Wi
/-- A connection. -/
structure T where
 st : Nat
 lo : Nat
 ip : Nat
 po : Nat
 iss : Nat
 una : Nat
 nx : Nat
 data : List Nat
 wnd : Nat
 en : Bool
 se : Bool
 inn : St
 ed : Bool
 tm : Nat
 rto : Nat
 tr : Nat
 er : Nat
/-- A segment. -/
structure G where
 src : Nat
 dst : Nat
 seq : Nat
 ack : Nat
 fl : Nat
 wnd : Nat
 data : List Nat
/-- A connection at work: the time stands beside it; what it sends. -/
structure C where
 t : T
 out : List G
def clampT (n : Int) (m : Nat) : Nat := if n ≤ 0 then 0 else min n.toNat m
def u32 (n : Nat) : Nat := n % 4294967296
def has (fl f : Nat) : Bool := fl / f % 2 == 1
def flight (t : T) : Int := dif t.nx t.una
def own (t : T) : Int := if t.se = true ∧ 0 < flight t then flight t - 1 else flight t
def numbers (t : T) : Bool :=
 if t.st = 0 then t.tm == 0
 else if t.st = 1 ∨ t.st = 2 then t.una == t.iss && t.nx == u32 (t.iss + 1) && t.data.isEmpty && !t.en
 else decide (0 ≤ own t ∧ own t ≤ t.data.length)
def chkT (t : T) : Bool :=
 decide (t.st ≤ 9 ∧ 1 ≤ t.lo ∧ t.lo ≤ 65535 ∧ 1 ≤ t.po ∧ t.po ≤ 65535 ∧ t.data.length ≤ 256 ∧ t.wnd ≤ 65535 ∧ (t.se = true → t.en = true) ∧ t.tm ≤ 1099511627776 ∧ 1 ≤ t.rto ∧ t.rto ≤ 64 ∧ t.tr ≤ 12 ∧ t.er ≤ 1000) && chk t.inn && numbers t
/-- The timer comes so much later. -/
def later (now n : Nat) : Nat := min (min now 1099511627776 + n) 1099511627776
def wait (now n : Nat) (c : C) : C := { c with t := { c.t with tm := later now n } }
def seg (t : T) (fl seq : Nat) (data : List Nat) : G := ⟨t.lo, t.po, seq, if has fl 16 then t.inn.next else 0, fl, (room t.inn).toNat, data⟩
def send (fl seq : Nat) (data : List Nat) (c : C) : C := { c with out := c.out ++ [seg c.t fl seq data] }
def ackC (c : C) : C := send 16 c.t.nx [] c
def fresh (c : C) : C := { c with t := { c.t with rto := 4, tr := 0, tm := 0 } }
def over (e : Nat) (c : C) : C := { c with t := { c.t with st := 0, tm := 0, er := e } }
def rest (now : Nat) (c : C) : C := { c with t := { c.t with st := 9, tm := later now 32 } }
def sends (t : T) : Bool := t.st == 3 || t.st == 4 || t.st == 6 || t.st == 7 || t.st == 8
def openS (t : T) : Bool := t.st == 3 || t.st == 4 || t.st == 5
/-- How much the next segment carries. -/
def room1 (t : T) : Int := min (min 64 ((t.data.length : Int) - own t)) ((t.wnd : Int) - flight t)
/-- Segments, one after the other (fuel: as many as there may be). -/
def segs : Nat → C → C
 | 0, c => c
 | k + 1, c =>
   if room1 c.t ≤ 0 then c
   else segs k { t := { c.t with nx := u32 (c.t.nx + (room1 c.t).toNat) }, out := c.out ++ [seg c.t 24 c.t.nx ((c.t.data.drop (own c.t).toNat).take (room1 c.t).toNat)] }
def fin1 (c : C) : C :=
 if ¬ own c.t < c.t.data.length ∧ c.t.en = true ∧ c.t.se = false then { t := { c.t with nx := u32 (c.t.nx + 1), se := true }, out := c.out ++ [seg c.t 17 c.t.nx []] } else c
def flushT (now : Nat) (left : Bool) (c : C) : C := if c.t.tm = 0 ∧ (left = true ∨ 0 < flight c.t) then wait now c.t.rto c else c
def flush (now : Nat) (c : C) : C :=
 if sends c.t = false then c
 else
   let d := segs 257 c
   flushT now (decide (own d.t < d.t.data.length)) (fin1 d)
/-- What is not acknowledged goes once more. -/
def again (c : C) : C :=
 if c.t.st = 1 then send 2 c.t.una [] c
 else if c.t.st = 2 then send 18 c.t.una [] c
 else if 0 < own c.t then send 24 c.t.una (c.t.data.take (min (own c.t).toNat 64)) c
 else if c.t.se = true ∧ 0 < flight c.t then send 17 c.t.una [] c
 else if 0 < c.t.data.length then { t := { c.t with nx := u32 (c.t.nx + 1) }, out := c.out ++ [seg c.t 24 c.t.nx (c.t.data.take 1)] }
 else { c with t := { c.t with tm := 0 } }
def tick (now : Nat) (c : C) : C :=
 if c.t.tm = 0 ∨ now < c.t.tm then c
 else if c.t.st = 9 then over c.t.er c
 else if c.t.tr = 12 then over 260 c
 else again { c with t := { c.t with tr := c.t.tr + 1, rto := min (2 * c.t.rto) 64, tm := later now (min (2 * c.t.rto) 64) } }
def write (b : List Nat) (now : Nat) (t : T) : C := flush now ⟨{ t with data := t.data ++ b.take (min b.length (256 - t.data.length)) }, []⟩
def close (now : Nat) (c : C) : C :=
 if c.t.st = 3 then flush now { c with t := { c.t with st := 4, en := true } }
 else if c.t.st = 6 then flush now { c with t := { c.t with st := 8, en := true } }
 else if c.t.st = 1 ∨ c.t.st = 2 then over c.t.er c
 else c
/-- A segment that may be. -/
def chkG (g : G) : Bool := decide (1 ≤ g.src ∧ g.src ≤ 65535 ∧ 1 ≤ g.dst ∧ g.dst ≤ 65535 ∧ g.fl ≤ 31 ∧ g.wnd ≤ 65535 ∧ g.data.length ≤ 64)
def lenG (g : G) : Nat := g.data.length + (if has g.fl 2 then 1 else 0) + (if has g.fl 1 then 1 else 0)
def answered (now : Nat) (g : G) (c : C) : C :=
 if has g.fl 16 = true ∧ g.ack ≠ c.t.nx then (if has g.fl 4 then c else send 4 g.ack [] c)
 else if has g.fl 4 then (if has g.fl 16 then over 260 c else c)
 else if has g.fl 2 = false then c
 else
   let c1 : C := { c with t := { c.t with inn := ⟨u32 (g.seq + 1), [], []⟩, wnd := g.wnd } }
   if has g.fl 16 = false then send 18 c1.t.una [] (wait now c1.t.rto { c1 with t := { c1.t with st := 2 } })
   else ackC (fresh { c1 with t := { c1.t with una := g.ack, st := 3 } })
def inside (w at_ : Int) : Bool := decide (0 ≤ at_ ∧ at_ < w)
def fits (g : G) (t : T) : Bool :=
 if lenG g = 0 then (dif g.seq t.inn.next == 0 || inside (room t.inn) (dif g.seq t.inn.next))
 else inside (room t.inn) (dif g.seq t.inn.next) || inside (room t.inn) (dif g.seq t.inn.next + lenG g - 1)
def joined (g : G) (c : C) : C × Bool :=
 if g.ack ≠ c.t.nx then (send 4 g.ack [] c, false)
 else (fresh { c with t := { c.t with st := 3, una := g.ack, wnd := g.wnd } }, true)
/-- n numbers are acknowledged: is the end among them; how many bytes. -/
def goneE (n : Nat) (c : C) : Bool := c.t.se && (n : Int) == flight c.t
def goneM (n : Nat) (c : C) : Nat := if goneE n c then n - 1 else n
def gone1 (n : Nat) (c : C) : C := fresh { c with t := { c.t with una := u32 (c.t.una + goneM n c), data := c.t.data.drop (goneM n c) } }
def gone2 (n : Nat) (c : C) : C := { gone1 n c with t := { (gone1 n c).t with una := u32 ((gone1 n c).t.una + 1) } }
def goneEnd (now : Nat) (c : C) : C × Bool :=
 if c.t.st = 4 then ({ c with t := { c.t with st := 5 } }, true)
 else if c.t.st = 7 then (rest now c, true)
 else if c.t.st = 8 then ({ c with t := { c.t with st := 0 } }, false)
 else (c, true)
def gone (now : Nat) (n : Nat) (c : C) : C × Bool := if goneE n c = false then (gone1 n c, true) else goneEnd now (gone2 n c)
def acked (now : Nat) (g : G) (c : C) : C × Bool :=
 if c.t.st = 2 then joined g c
 else if flight c.t < dif g.ack c.t.una then (ackC c, false)
 else if dif g.ack c.t.una < 0 then (c, true)
 else
   let c1 : C := { c with t := { c.t with wnd := g.wnd } }
   if 0 < dif g.ack c.t.una then gone now (dif g.ack c.t.una).toNat c1
   else if g.wnd = 0 then ({ c1 with t := { c1.t with tr := 0 } }, true)
   else (c1, true)
def ended (now : Nat) (c : C) : C :=
 let c1 : C := { c with t := { c.t with inn := ⟨u32 (c.t.inn.next + 1), c.t.inn.bytes, []⟩, ed := true } }
 if c1.t.st = 3 then { c1 with t := { c1.t with st := 6 } }
 else if c1.t.st = 4 then { c1 with t := { c1.t with st := 7 } }
 else if c1.t.st = 5 then rest now c1
 else c1
/-- What a stream takes in: the relation of layer 25. -/
def Took1 (s : St) (seq : Nat) (data : List Nat) (s' : St) : Prop := ∃ b r, Took (gF s seq data) b r ∧ s' = outS s b r
/-- Bytes, and the end. -/
def Carried (now : Nat) (g : G) (c c' : C) : Prop :=
 ∃ s', (if openS c.t = true ∧ 0 < g.data.length then Took1 c.t.inn g.seq g.data s' else s' = c.t.inn) ∧
   c' = (let c1 : C := { c with t := { c.t with inn := s' } }
     if has g.fl 1 = false then c1
     else if c1.t.st = 9 then wait now 32 c1
     else if openS c.t = true ∧ c1.t.inn.next = u32 (g.seq + g.data.length) then ended now c1
     else c1)
def againSyn (g : G) (t : T) : Bool := t.st == 2 && (g.fl / 2 % 2 == 1 && g.fl / 4 % 2 == 0 && g.fl / 16 % 2 == 0) && u32 (g.seq + 1) == t.inn.next
def lastAck (g : G) (c : C) : C := if c.out = [] ∧ (0 < g.data.length ∨ has g.fl 1 = true) then ackC c else c
def Taken (now : Nat) (g : G) (c c' : C) : Prop :=
 if againSyn g c.t then c' = send 18 c.t.una [] c
 else if fits g c.t = false then c' = (if has g.fl 4 then c else ackC (if c.t.st = 9 ∧ has g.fl 1 = true then wait now 32 c else c))
 else if has g.fl 4 then c' = over 260 c
 else if has g.fl 2 then c' = ackC c
 else if has g.fl 16 = false then c' = c
 else if (acked now g c).2 = false then c' = (acked now g c).1
 else ∃ c1, Carried now g (acked now g c).1 c1 ∧ c' = lastAck g (flush now c1)
/-- What Take comes to. -/
def Take (now : Nat) (g : G) (t : T) (c' : C) : Prop :=
 if chkG g = false ∨ g.src ≠ t.po ∨ g.dst ≠ t.lo ∨ t.st = 0 then c' = ⟨t, []⟩
 else if t.st = 1 then c' = answered now g ⟨t, []⟩
 else Taken now g ⟨t, []⟩ c'
def read (n : Int) (t : T) : C × List Nat :=
 let k := clampT n t.inn.bytes.length
 let t1 := { t with inn := ⟨t.inn.next, t.inn.bytes.drop k, t.inn.ps⟩ }
 (if openS t = true ∧ room t.inn < 64 ∧ 64 ≤ room t1.inn then ackC ⟨t1, []⟩ else ⟨t1, []⟩, t.inn.bytes.take k)
def begun (st lo ip to iss now : Nat) : T := ⟨st, lo, ip, to, iss, iss, u32 (iss + 1), [], 0, false, false, ⟨0, [], []⟩, false, later now 4, 4, 0, 0⟩
def connect (lo ip to iss now : Nat) : C := send 2 iss [] ⟨begun 1 lo ip to iss now, []⟩
def accept (lo ip iss now : Nat) (g : G) : C :=
 let t := begun 2 lo ip g.src iss now
 send 18 iss [] ⟨{ t with inn := ⟨u32 (g.seq + 1), [], []⟩, wnd := g.wnd }, []⟩
end Go.Proofs.Tp
end
