/-
 A slice that reads as a list of cells; opening one that came in. No program in sight.
-/
import Derived.Test.YthenepdbgeafkaaGAE
import Derived.Deep.Slices
set_option linter.unusedVariables false
set_option linter.unusedSimpArgs false
namespace Go
open Go.RowKit
def Rd (w : World) (k : Nat) (v : Value) (c : List Value) : Prop :=
 ∃ ao n cap, v = .slice ao n cap ∧ c.length = n * k ∧ n ≤ cap ∧ cap ≤ maxLen ∧ (ao = none → n = 0 ∧ cap = 0) ∧ ∀ i, i < c.length → ∃ b o, ao = some ⟨b, o, none⟩ ∧ b < w.heap.size ∧ w.cell? ⟨b, o + i, none⟩ = c[i]?
theorem Rd.new {w w' : World} {k : Nat} {v : Value} {c : List Value} (h : Rd w k v c) (hn : New w w') : Rd w' k v c := by
 obtain ⟨ao, n, cap, rfl, h1, h2, h3, h4, h5⟩ := h
 refine ⟨ao, n, cap, rfl, h1, h2, h3, h4, fun i hi => ?_⟩
 obtain ⟨b, o, e, hb, hc⟩ := h5 i hi
 have := hn.size
 exact ⟨b, o, e, by omega, by rw [hn.cell (p := ⟨b, o + i, none⟩) hb]; exact hc⟩
theorem Rd.drew {w : World} {k : Nat} {v : Value} {c : List Value} (h : Rd w k v c) : Rd w.drew k v c := h.new ⟨rfl, rfl, rfl, Nat.le_refl _, fun _ _ => rfl⟩
theorem Rd.below {w0 w' : World} {k : Nat} {v : Value} {c : List Value} (h : Rd w0 k v c) (hb : Below w0.heap.size w0 w') : Rd w' k v c := h.new hb
theorem Rd.nil (w : World) (k : Nat) : Rd w k (.slice none 0 0) [] := ⟨none, 0, 0, rfl, by simp, Nat.le_refl _, by unfold maxLen; omega, fun _ => ⟨rfl, rfl⟩, fun i hi => by simp at hi⟩
theorem Rd.some {w : World} {k : Nat} {v : Value} {c : List Value} (h : Rd w k v c) (hc : 0 < c.length) : ∃ b o n cap, v = .slice (some ⟨b, o, none⟩) n cap ∧ c.length = n * k ∧ n ≤ cap ∧ cap ≤ maxLen ∧ b < w.heap.size ∧ ∀ i, i < c.length → w.cell? ⟨b, o + i, none⟩ = c[i]? := by
 obtain ⟨ao, n, cap, rfl, h1, h2, h3, _, h5⟩ := h
 obtain ⟨b, o, e, hb, _⟩ := h5 0 hc
 subst e
 refine ⟨b, o, n, cap, rfl, h1, h2, h3, hb, fun i hi => ?_⟩
 obtain ⟨b', o', e, _, hc'⟩ := h5 i hi
 cases e; exact hc'
theorem cell_lt {w : World} {b o : Nat} {s : Option Nat} {v : Value} (h : w.cell? ⟨b, o, s⟩ = Option.some v) : b < w.heap.size ∧ s = none := by
 unfold World.cell? at h
 rcases Nat.lt_or_ge b w.heap.size with g | g
 · refine ⟨g, ?_⟩
   split at h
   · split at h
     · cases h
     · rename_i hs; simpa using hs
   · cases h
 · rw [Array.getElem?_eq_none g] at h; cases h
section
variable {H : Type} {enc : TypeId × Value → H} {P : Program} {w : World} {spare : Nat → Bool} {held : Bool}
open Go.Deep
theorem get_flat {α : Type} {k : Nat} {en : α → List Value} (hen : ∀ x, (en x).length = k) : ∀ (l : List α) (i j : Nat), j < k → (l.flatMap en)[i * k + j]? = (l[i]?).bind fun x => (en x)[j]?
 | [], i, j, _ => by simp
 | x :: l, 0, j, hj => by
   rw [List.flatMap_cons, List.getElem?_append_left (by rw [hen]; omega)]; simp
 | x :: l, i + 1, j, hj => by
   rw [List.flatMap_cons, List.getElem?_append_right (by rw [hen, Nat.add_mul]; omega), hen, show (i + 1) * k + j - k = i * k + j from by rw [Nat.add_mul]; omega, get_flat hen l i j hj]
   simp
theorem len_flat {α : Type} {k : Nat} {en : α → List Value} (hen : ∀ x, (en x).length = k) (l : List α) : (l.flatMap en).length = l.length * k := by
 induction l with
 | nil => simp
 | cons x l ih => rw [List.flatMap_cons, List.length_append, ih, hen, List.length_cons, Nat.add_mul]; omega
theorem open_rd {α : Type} [Inhabited α] {t e : TypeId} {fuel : Nat} {cs : List Value} {x : DataW H × List MemPlace} (en : α → List Value) (good : α → Prop) (k : Nat) (hk0 : 0 < k) (ht : P.underlying t = Option.some (.slice e)) (hk : P.cellsOf e = k)
   (hen : ∀ x, (en x).length = k) (hel : ∀ n cs' d, DataW.trod enc P w 0 spare held n e cs' = Option.some d → ∃ x, cs' = en x ∧ good x) (h : DataW.trod enc P w 0 spare held fuel t cs = Option.some x) :
   ∃ v, cs = [v] ∧ ∃ l : List α, Rd w k v (l.flatMap en) ∧ ∀ x ∈ l, good x := by
 rcases open_slice ht h with ⟨rfl, _⟩ | ⟨a, len, cap, m, n, D, Pl, rfl, _, hl, hm, hmm, _, hx⟩
 · exact ⟨_, rfl, [], Rd.nil _ _, fun _ h => (List.not_mem_nil h).elim⟩
 refine ⟨_, rfl, ?_⟩
 have hlm : len ≤ m := by rw [hmm]; split <;> omega
 rw [hk] at hx
 have hy : ∀ i, i < len → ∃ y : α, good y ∧ ∀ j, j < k → w.cell? ((a.add (i * k)).add j) = (en y)[j]? := fun i hi => by
   obtain ⟨cs', h1, h2⟩ := hx i (by omega)
   obtain ⟨_, h3, h4⟩ := World.cells?_some h1
   obtain ⟨y, rfl, hg⟩ := hel _ _ _ h2
   exact ⟨y, hg, h4⟩
 obtain ⟨f, hf⟩ := choose_lt hy
 refine ⟨(List.range len).map f, ⟨Option.some a, len, cap, rfl, by rw [len_flat hen]; simp, hl, hm, fun h => (by cases h), fun i hi => ?_⟩, fun x hx => ?_⟩
 · rw [len_flat hen, List.length_map, List.length_range] at hi
   have hd : i / k < len := (Nat.div_lt_iff_lt_mul hk0).2 hi
   have hmd : i % k < k := Nat.mod_lt _ hk0
   have hi' : i = i / k * k + i % k := (Nat.div_add_mod' i k).symm
   have h1 := (hf _ hd).2 _ hmd
   have hl0 : 0 < len := Nat.pos_of_ne_zero (fun h => by rw [h] at hi; simp at hi)
   have h00 := (hf 0 hl0).2 0 hk0
   rw [Nat.zero_mul, add_add, Nat.zero_add] at h00
   have hsp : a.spot = none := by
     have : a.add 0 = a := by simp [Addr.add]
     rw [this, List.getElem?_eq_getElem (by rw [hen]; exact hk0)] at h00
     exact (cell_lt (b := a.block) (o := a.off) (s := a.spot) h00).2
   rw [add_add, ← hi'] at h1
   obtain ⟨ab, ao, as⟩ := a
   subst hsp
   have he : Addr.add ⟨ab, ao, none⟩ i = ⟨ab, ao + i, none⟩ := by
     unfold Addr.add
     by_cases h0 : i = 0
     · rw [if_pos h0, h0]; rfl
     · rw [if_neg h0]
   rw [he] at h1
   refine ⟨ab, ao, rfl, ?_, ?_⟩
   · rw [List.getElem?_eq_getElem (by rw [hen]; exact hmd)] at h1
     exact (cell_lt h1).1
   · rw [h1]
     have hg := get_flat hen ((List.range len).map f) (i / k) (i % k) hmd
     rw [← hi'] at hg
     rw [hg, List.getElem?_map, List.getElem?_range hd]; rfl
 · obtain ⟨i, hi, rfl⟩ := List.mem_map.1 hx
   exact (hf i (by simpa using hi)).1
end
end Go
