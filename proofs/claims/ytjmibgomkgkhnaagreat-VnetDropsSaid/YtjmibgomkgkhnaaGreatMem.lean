/-
 The call's own variables and the slices that it reads, side by side; append to a slice that is full. No program in sight.
-/
import Derived.Test.YtjmibgomkgkhnaaGreatOwn
set_option linter.unusedSimpArgs false
set_option linter.unusedVariables false
namespace Go
open Go.RowKit
def Apart (v : Value) (c : List Value) (L : List (Nat × Array Value)) : Prop := c ≠ [] → ∀ b o n cap, v = .slice (some ⟨b, o, none⟩) n cap → ∀ p ∈ L, p.1 ≠ b
def FR (w w' : World) (k : Nat) (v : Value) (c : List Value) : Prop := Rd w' k v c ∧ (c ≠ [] → ∃ b o n cap, v = .slice (some ⟨b, o, none⟩) n cap ∧ w.heap.size ≤ b)
structure Mem (w0 w : World) (L : List (Nat × Array Value)) (R : List (Nat × Value × List Value)) : Prop where
 vars : Vars w0 w L
 rds : ∀ x ∈ R, Rd w x.1 x.2.1 x.2.2 ∧ Apart x.2.1 x.2.2 L
theorem Rd.wrote {w w' : World} {b : Nat} {z : Array Value} {k : Nat} {v : Value} {c : List Value} (h : Rd w k v c) (hw : Wrote w w' b z) (ha : c ≠ [] → ∀ b' o n cap, v = .slice (Option.some ⟨b', o, none⟩) n cap → b ≠ b') : Rd w' k v c := by
 obtain ⟨ao, n, cap, rfl, h1, h2, h3, h4, h5⟩ := h
 refine ⟨ao, n, cap, rfl, h1, h2, h3, h4, fun i hi => ?_⟩
 obtain ⟨b', o, e, hb, hc⟩ := h5 i hi
 have hne : b' ≠ b := fun e' => ha (fun e => by rw [e] at hi; simp at hi) b' o n cap (by rw [e]) e'.symm
 exact ⟨b', o, e, by rw [hw.size]; exact hb, by rw [← hc]; exact World.cell?_of_block (w := w) (hw.other b' hne)⟩
section
variable {w0 w w' : World} {L : List (Nat × Array Value)} {R : List (Nat × Value × List Value)} {k : Nat} {v : Value} {c : List Value}
theorem Mem.nil (w : World) : Mem w w [] [] := ⟨Vars.nil w, fun _ h => (List.not_mem_nil h).elim⟩
theorem Mem.below (h : Mem w0 w L R) : Below w0.heap.size w0 w := h.vars.below
theorem Mem.z {x : Nat × Value × List Value} {l : List (Nat × Value × List Value)} : x ∈ x :: l := List.Mem.head _
theorem Mem.s {x y : Nat × Value × List Value} {l : List (Nat × Value × List Value)} (h : x ∈ l) : x ∈ y :: l := List.Mem.tail _ h
theorem Mem.rd (h : Mem w0 w L R) (hm : (k, v, c) ∈ R) : Rd w k v c := (h.rds _ hm).1
theorem Mem.add (h : Mem w0 w L R) (hr : Rd w k v c) (ha : Apart v c L) : Mem w0 w L ((k, v, c) :: R) :=
 ⟨h.vars, fun x hx => by
   rcases List.mem_cons.1 hx with rfl | hx
   · exact ⟨hr, ha⟩
   · exact h.rds x hx⟩
theorem Rd.lt {b o n cap : Nat} (h : Rd w k (.slice (Option.some ⟨b, o, none⟩) n cap) c) (hc : c ≠ []) : b < w.heap.size := by
 obtain ⟨b', o', n', cap', e, _, _, _, hb, _⟩ := h.some (List.length_pos_iff.2 hc)
 cases e; exact hb
theorem Mem.old (h : Mem w0 w L R) (hr : Rd w0 k v c) : Mem w0 w L ((k, v, c) :: R) :=
 h.add (hr.below h.below) (fun hc b o n cap e p hp => by
   subst e
   have := hr.lt hc
   have := (h.vars.rows p hp).2.2
   omega)
theorem Mem.new (h : Mem w0 w L R) (hn : New w w') : Mem w0 w' L R := ⟨h.vars.new hn, fun x hx => ⟨(h.rds x hx).1.new hn, (h.rds x hx).2⟩⟩
theorem Mem.fresh (h : Mem w0 w L R) (hn : New w w') (hr : FR w w' k v c) : Mem w0 w' L ((k, v, c) :: R) :=
 (h.new hn).add hr.1 (fun hc b o n cap e p hp => by
   obtain ⟨b', o', n', cap', e', hb⟩ := hr.2 hc
   rw [e'] at e; cases e
   have := soft_lt (h.vars.rows p hp).2.1
   omega)
theorem Mem.madeAt {b : Nat} {z : Array Value} (h : Mem w0 w L R) (hm : MadeAt w w' b z) : Mem w0 w' ((b, z) :: L) R :=
 ⟨h.vars.madeAt hm, fun x hx => by
   obtain ⟨h1, h2⟩ := h.rds x hx
   obtain ⟨rfl, hm⟩ := hm
   refine ⟨h1.new hm.new, fun hc b o n cap e p hp => ?_⟩
   rcases List.mem_cons.1 hp with rfl | hp
   · rw [e] at h1
     have := h1.lt hc
     simp only; omega
   · exact h2 hc b o n cap e p hp⟩
theorem Mem.set (h : Mem w0 w L R) (i : Nat) {b : Nat} {c0 c1 : Array Value} (hi : L[i]? = some (b, c0)) (hw : Wrote w w' b c1) : Mem w0 w' (L.set i (b, c1)) R :=
 ⟨h.vars.set i hi hw, fun x hx => by
   obtain ⟨h1, h2⟩ := h.rds x hx
   refine ⟨h1.wrote hw fun hc b' o n cap e => h2 hc b' o n cap e _ (List.mem_of_getElem? hi), fun hc b' o n cap e p hp => ?_⟩
   rcases List.mem_or_eq_of_mem_set hp with hp | rfl
   · exact h2 hc b' o n cap e p hp
   · exact h2 hc b' o n cap e (b, c0) (List.mem_of_getElem? hi)⟩
theorem Mem.keep {L' : List (Nat × Array Value)} (h : Mem w0 w L R) (hs : L'.Sublist L) : Mem w0 w L' R := ⟨h.vars.keep hs, fun x hx => ⟨(h.rds x hx).1, fun hc b o n cap e p hp => (h.rds x hx).2 hc b o n cap e p (hs.subset hp)⟩⟩
theorem Mem.keepR {R' : List (Nat × Value × List Value)} (h : Mem w0 w L R) (hs : ∀ x ∈ R', x ∈ R) : Mem w0 w L R' := ⟨h.vars, fun x hx => h.rds x (hs x hx)⟩
theorem OwnS.fr {e : TypeId} (h : OwnS w w' L e k v c) : FR w w' k v c := by
 refine ⟨h.rd, fun hc => ?_⟩
 rcases h.row with ⟨_, h0⟩ | ⟨x, ⟨n, cap, rfl, _⟩, hx⟩
 · exact absurd h0 hc
 · exact ⟨x.1, 0, n, cap, rfl, (hx.rows x (List.mem_cons_self ..)).2.2⟩
theorem FR.new {w2 : World} (h : FR w w' k v c) (hn : New w' w2) : FR w w2 k v c := ⟨h.1.new hn, h.2⟩
theorem FR.nil (w w' : World) (k : Nat) : FR w w' k (.slice none 0 0) [] := ⟨Rd.nil _ _, fun h => (h rfl).elim⟩
end
section
variable {P : Program} {w : World} {k : Nat}
variable {ops : Array Oper} {rest : List Oper} {a : Act} {Q : Exit → Act → World → Prop}
variable {dst : Option Tmp} {ty t e : TypeId} {pos : String} {after : Array Edge} {g : Option (Nat × Bool)} {x y : Operand}
end
end Go

theorem Go.Mem.sets {w0 w w' : Go.World} {L L' : List (Nat × Array Go.Value)} {R : List (Nat × Go.Value × List Go.Value)} (h : Go.Mem w0 w L R) {b : Nat} {c0 c : Array Go.Value} (hs : Go.SetM b c0 c L L') (hw : Go.Wrote w w' b c) : Go.Mem w0 w' L' R := by
 obtain ⟨i, h1, h2⟩ := hs.at_
 rw [h2]; exact h.set i h1 hw
