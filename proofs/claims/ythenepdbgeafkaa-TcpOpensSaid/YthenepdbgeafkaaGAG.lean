import Derived.Test.YthenepdbgeafkaaRd
import Derived.Test.YthenepdbgeafkaaGAE
import Derived.OwnWalk
import Derived.Laws.OwnMore
set_option linter.unusedSimpArgs false
set_option linter.unusedVariables false
section
/-
 A slice that the call itself makes, beside variables of its own: append, whatever is appended. No program in sight.
-/
namespace Go
open Go.RowKit
theorem Vars.lay {w0 w w' : World} {L : LV} (h : Vars w0 w L) {B : Nat} {z : Array Value} (hB : w.heap.size ≤ B) (hn : New w w') (hr : w'.rowD B = z) (hs : w'.soft B = true) : Vars w0 w' ((B, z) :: L) := by
 have hv := h.new hn
 have hsz := h.below.size
 refine ⟨hv.below, fun p hp => ?_, ?_⟩
 · rcases List.mem_cons.1 hp with rfl | hp
   · exact ⟨hr, hs, by omega⟩
   · exact hv.rows p hp
 · rw [List.map_cons, List.nodup_cons]
   refine ⟨fun hc => ?_, h.apart⟩
   obtain ⟨p, hp, he⟩ := List.mem_map.1 hc
   have := soft_lt (h.rows p hp).2.1
   simp only at he; omega
theorem Vars.swap {w0 w : World} {x y : Nat × Array Value} {L : LV} (h : Vars w0 w (x :: y :: L)) : Vars w0 w (y :: x :: L) := by
 refine ⟨h.below, fun p hp => h.rows p ?_, ?_⟩
 · simp only [List.mem_cons] at hp ⊢; rcases hp with h | h | h <;> simp [h]
 · have := h.apart
   simp only [List.map_cons, List.nodup_cons, List.mem_cons, not_or] at this ⊢
   exact ⟨⟨fun e => this.1.1 e.symm, this.2.1⟩, this.1.2, this.2.2⟩
def AppRow (v : Value) (k : Nat) (c : List Value) (x : Nat × Array Value) : Prop :=
 ∃ n cap, v = .slice (some ⟨x.1, 0, none⟩) n cap ∧ c.length = n * k ∧ n ≤ cap ∧ cap ≤ maxLen ∧ x.2.size = cap * k ∧ x.2.toList.take (n * k) = c
structure OwnS (w0 w : World) (L : LV) (e : TypeId) (k : Nat) (v : Value) (c : List Value) : Prop where
 vars : Vars w0 w L
 row : (v = .slice none 0 0 ∧ c = []) ∨ ∃ x, AppRow v k c x ∧ Vars w0 w (x :: L)
section
variable {w0 w w' : World} {L : LV} {e : TypeId} {k : Nat} {v : Value} {c : List Value}
theorem OwnS.nil (h : Vars w0 w L) : OwnS w0 w L e k (.slice none 0 0) [] := ⟨h, .inl ⟨rfl, rfl⟩⟩
theorem OwnS.below (h : OwnS w0 w L e k v c) : Below w0.heap.size w0 w := h.vars.below
theorem OwnS.new (h : OwnS w0 w L e k v c) (hn : New w w') : OwnS w0 w' L e k v c :=
 ⟨h.vars.new hn, h.row.imp id fun ⟨x, h1, h2⟩ => ⟨x, h1, h2.new hn⟩⟩
theorem OwnS.alloc (h : OwnS w0 w L e k v c) (z : Array Value) (t : TypeId) : OwnS w0 (w.alloc (.cells z t)) L e k v c := h.new (made_alloc w z t).new
theorem OwnS.drew (h : OwnS w0 w L e k v c) : OwnS w0 w.drew L e k v c := h.new ⟨rfl, rfl, rfl, Nat.le_refl _, fun _ _ => rfl⟩
theorem OwnS.madeAt {b : Nat} {z : Array Value} (h : OwnS w0 w L e k v c) (hm : MadeAt w w' b z) : OwnS w0 w' ((b, z) :: L) e k v c :=
 ⟨h.vars.madeAt hm, h.row.imp id fun ⟨x, h1, h2⟩ => ⟨x, h1, (h2.madeAt hm).swap⟩⟩
theorem OwnS.set (h : OwnS w0 w L e k v c) (i : Nat) {b : Nat} {c0 c1 : Array Value} (hi : L[i]? = some (b, c0)) (hw : Wrote w w' b c1) : OwnS w0 w' (L.set i (b, c1)) e k v c :=
 ⟨h.vars.set i hi hw, h.row.imp id fun ⟨x, h1, h2⟩ => ⟨x, h1, by have := h2.set (i + 1) (c := c1) (by simpa using hi) hw; simpa using this⟩⟩
theorem OwnS.keep {L' : LV} (h : OwnS w0 w L e k v c) (hs : L'.Sublist L) : OwnS w0 w L' e k v c :=
 ⟨h.vars.keep hs, h.row.imp id fun ⟨x, h1, h2⟩ => ⟨x, h1, h2.keep (hs.cons_cons x)⟩⟩
theorem AppRow.rd {x : Nat × Array Value} (h : AppRow v k c x) (hr : w.rowD x.1 = x.2) (hs : w.soft x.1 = true) : Rd w k v c := by
 obtain ⟨n, cap, rfl, h1, h2, h3, h4, h5⟩ := h
 refine ⟨some ⟨x.1, 0, none⟩, n, cap, rfl, h1, h2, h3, fun h => (by cases h), fun i hi => ⟨x.1, 0, rfl, soft_lt hs, ?_⟩⟩
 rw [cell_rowD, hr, Nat.zero_add, ← h5, List.getElem?_take, if_pos (by omega), Array.getElem?_toList]
theorem OwnS.rd (h : OwnS w0 w L e k v c) : Rd w k v c := by
 rcases h.row with ⟨rfl, rfl⟩ | ⟨x, h1, h2⟩
 · exact Rd.nil _ _
 · exact h1.rd (h2.row (List.mem_cons_self ..)) (h2.sft (List.mem_cons_self ..))
end
section
variable {P : Program} {w w0 : World} {L : LV} {e : TypeId} {k : Nat} {v : Value} {c : List Value}
theorem run_append_room' (t ty e t' : TypeId) (i : TypeInfo) (ht : P.underlying t = some (.slice e)) (hi : P.info? e = some i)
   (g sLen sCap : Nat) (cur : Array Value) (hg : w.heap[g]? = some (.cells cur t' (0, 0)))
   (a : Addr) (m c : Nat) (news : List Value) (hl : news.length = m * i.size) (hnews : ∀ j u, news[j]? = some u → w.cell? (a.add j) = some u) (h1 : ∀ u ∈ news, u.oneCell' = true)
   (hroom : sLen + m ≤ sCap) (hfit : sLen * i.size + news.length ≤ cur.size) :
   (Builtin.append_ #[t, t] ty #[.slice (some ⟨g, 0, none⟩) sLen sCap, .slice (some a) m c]).run P w =
     .ok (.slice (some ⟨g, 0, none⟩) (sLen + m) sCap) (w.setRow g (cur.toList.take (sLen * i.size) ++ news ++ cur.toList.drop (sLen * i.size + news.length)).toArray) := by
 have hf := run_firstCells_some (P := P) w i.size m a m c news hl hnews
 have hst := run_storeCells_at P g (sLen * i.size) t' news 0 cur w hg (by simpa using hfit) h1
 simp only [Nat.add_zero] at hst
 simp [Builtin.append_, run_underlying ht, sizeOf, typeInfo, hi, Builtin.lenOf, hroom, hf, Addr.add_lit, hst]
theorem run_app_row (t ty : TypeId) (i : TypeInfo) (z : Value) (bytes : Nat) (ht : P.underlying t = some (.slice e)) (hi : P.info? e = some i) (hz : i.zero = some z)
   (hsize : i.size = k) (hby : i.bytes = bytes) (hzs : z.cells.size = k) (hk : 0 < k) {x : Nat × Array Value} (hx : AppRow v k c x) (hr : w.rowD x.1 = x.2) (hs : w.soft x.1 = true)
   {u : Value} {news : List Value} (hu : Rd w k u news) (h1 : ∀ x ∈ news, x.oneCell' = true)
   (h63 : (c.length + news.length) / k ≤ maxLen) (hbytes : (c.length + news.length) / k * bytes ≤ 140737488355328) :
   ∃ v' w' x', (Builtin.append_ #[t, t] ty #[v, u]).run P w = .ok v' w' ∧ AppRow v' k (c ++ news) x' ∧ ((x'.1 = x.1 ∧ Wrote w w' x.1 x'.2) ∨ (x'.1 = w.heap.size ∧ New w w' ∧ w'.rowD x'.1 = x'.2 ∧ w'.soft x'.1 = true)) := by
 obtain ⟨n, cap, rfl, g1, g2, g3, g4, g5⟩ := hx
 obtain ⟨ao, m, mc, rfl, hl, hmc, hcm, hnone, hcell⟩ := hu
 have hnm : (c.length + news.length) / k = n + m := by rw [g1, hl, ← Nat.add_mul, Nat.mul_div_cancel _ hk]
 rw [hnm] at h63 hbytes
 obtain ⟨tt, hh⟩ := soft_heap hs
 rw [hr] at hh
 cases ao with
 | none =>
   obtain ⟨rfl, rfl⟩ := hnone rfl
   have hn0 : news = [] := List.length_eq_zero_iff.1 (by omega)
   subst hn0
   refine ⟨.slice (some ⟨x.1, 0, none⟩) n cap, w, x, ?_, ⟨n, cap, rfl, by simpa using g1, g2, g3, g4, by simpa using g5⟩, .inl ⟨rfl, ⟨hr, hs, fun _ _ => rfl, rfl, rfl, rfl, rfl⟩⟩⟩
   simp [Builtin.append_, run_underlying ht, sizeOf, typeInfo, hi, Builtin.lenOf, Builtin.firstCells, g2, storeCells]
 | some a =>
   have hnews : ∀ j x, news[j]? = some x → w.cell? (a.add j) = some x := fun j x hj => by
     have hjl := (List.getElem?_eq_some_iff.1 hj).1
     obtain ⟨b, o, e1, _, e2⟩ := hcell j hjl
     cases e1
     have : Addr.add ⟨b, o, none⟩ j = ⟨b, o + j, none⟩ := by
       unfold Addr.add
       by_cases h0 : j = 0
       · rw [if_pos h0, h0]; rfl
       · rw [if_neg h0]
     rw [this, e2]; exact hj
   have hlen : (c ++ news).length = (n + m) * k := by rw [List.length_append, g1, hl, Nat.add_mul]
   by_cases hroom : n + m ≤ cap
   · have hfit : n * k + news.length ≤ x.2.size := by rw [hl, g4, ← Nat.add_mul]; exact Nat.mul_le_mul_right _ hroom
     have r := run_append_room' (P := P) (w := w) t ty e tt i ht hi x.1 n cap x.2 hh a m mc news (by rw [hsize]; exact hl) hnews h1 hroom (by rw [hsize]; exact hfit)
     rw [hsize] at r
     refine ⟨_, _, (x.1, (x.2.toList.take (n * k) ++ news ++ x.2.toList.drop (n * k + news.length)).toArray), r, ⟨n + m, cap, rfl, hlen, hroom, g3, ?_, ?_⟩, .inl ⟨rfl, wrote_setRow hs⟩⟩
     · simp only [List.size_toArray, List.length_append, List.length_take, List.length_drop, Array.length_toList]
       omega
     · simp only
       rw [g5, ← hlen]
       exact List.take_left
   · have holds : ∀ j u, c[j]? = some u → w.cell? (Addr.add ⟨x.1, 0, none⟩ j) = some u := fun j u hj => by
       have hjl := (List.getElem?_eq_some_iff.1 hj).1
       have hadd : (⟨x.1, 0, none⟩ : Addr).add j = ⟨x.1, j, none⟩ := by unfold Addr.add; split <;> simp_all
       rw [hadd, cell_rowD, hr]
       rw [← g5, List.getElem?_take, if_pos (by omega), Array.getElem?_toList] at hj
       exact hj
     have q1 := run_append_grow (P := P) w t ty e i z ht hi hz ⟨x.1, 0, none⟩ n cap c (by rw [hsize]; exact g1) holds a m mc news (by rw [hsize]; exact hl) hnews (by omega) (by unfold maxLen at h63; omega) (growslice_fits (by omega) (by rw [hby]; exact hbytes))
     have hge := grownCap_ge w (n + m) cap e
     have hcm := grownCap_le_maxLen w (n + m) cap e h63
     refine ⟨_, _, (w.heap.size, c.toArray ++ news.toArray ++ Builtin.zeroCells z.cells (grownCap w (n + m) cap e - (n + m))), q1, ⟨n + m, grownCap w (n + m) cap e, rfl, hlen, hge, hcm, ?_, ?_⟩, .inr ⟨rfl, ?_, ?_, ?_⟩⟩
     · simp only [Array.size_append, List.size_toArray, size_zeroCells, hzs, g1, hl, ← Nat.add_mul]
       congr 1
       omega
     · simp only [Array.toList_append, List.append_assoc]
       rw [← List.append_assoc, ← hlen]
       exact List.take_left
     · have hb : Below w.heap.size w w.drew := ⟨rfl, rfl, rfl, Nat.le_refl _, fun _ _ => rfl⟩
       exact hb.alloc (Nat.le_refl _) _
     · exact rowD_alloc_at w.drew _ _ _ rfl
     · exact soft_alloc_at w.drew _ _ _ rfl
theorem run_app_nil (t ty : TypeId) (i : TypeInfo) (z : Value) (bytes : Nat) (ht : P.underlying t = some (.slice e)) (hi : P.info? e = some i) (hz : i.zero = some z)
   (hsize : i.size = k) (hby : i.bytes = bytes) (hzs : z.cells.size = k) (hk : 0 < k)
   {u : Value} {news : List Value} (hu : Rd w k u news) (h1 : ∀ x ∈ news, x.oneCell' = true)
   (h63 : news.length / k ≤ maxLen) (hbytes : news.length / k * bytes ≤ 140737488355328) :
   ∃ v' w', (Builtin.append_ #[t, t] ty #[.slice none 0 0, u]).run P w = .ok v' w' ∧ New w w' ∧ ((v' = .slice none 0 0 ∧ news = []) ∨ ∃ x', AppRow v' k news x' ∧ w.heap.size ≤ x'.1 ∧ w'.rowD x'.1 = x'.2 ∧ w'.soft x'.1 = true) := by
 obtain ⟨ao, m, mc, rfl, hl, hmc, hcm, hnone, hcell⟩ := hu
 have hnm : news.length / k = m := by rw [hl, Nat.mul_div_cancel _ hk]
 rw [hnm] at h63 hbytes
 cases ao with
 | none =>
   obtain ⟨rfl, rfl⟩ := hnone rfl
   have hn0 : news = [] := List.length_eq_zero_iff.1 (by omega)
   subst hn0
   exact ⟨_, _, run_append_owned_none (P := P) w w.heap.size t ty e i k ht hi _ 0 [] (World.ownsRow_nil _ _ _ _), Below.refl _ _, .inl ⟨rfl, rfl⟩⟩
 | some a =>
   have hnews : ∀ j x, news[j]? = some x → w.cell? (a.add j) = some x := fun j x hj => by
     have hjl := (List.getElem?_eq_some_iff.1 hj).1
     obtain ⟨b, o, e1, _, e2⟩ := hcell j hjl
     cases e1
     have : Addr.add ⟨b, o, none⟩ j = ⟨b, o + j, none⟩ := by
       unfold Addr.add
       by_cases h0 : j = 0
       · rw [if_pos h0, h0]; rfl
       · rw [if_neg h0]
     rw [this, e2]; exact hj
   obtain ⟨v', w', r1, r2, r3, r4⟩ := run_append_own (P := P) w w.heap.size t ty e i z k bytes ht hi hz hsize hby hzs hk (.slice none 0 0) 0 [] (World.ownsRow_nil _ _ _ _) a m mc news hl hnews h1 (by omega) (by rw [Nat.zero_add]; exact hbytes) (Nat.le_refl _)
   refine ⟨v', w', r1, ⟨r3.os, r3.tape, r3.output, r3.size, fun j hj => r3.block j hj (by simp [Value.ownBlock])⟩, ?_⟩
   rw [Nat.zero_add, List.nil_append] at r2
   rcases r2.2 with ⟨rfl, hm0⟩ | ⟨g, cap, cur, rfl, hb, hh, h2, h3, h4, h5⟩
   · subst hm0
     exact .inl ⟨rfl, List.length_eq_zero_iff.1 (by omega)⟩
   · exact .inr ⟨(g, cur), ⟨m, cap, rfl, hl, h2, h3, h4, h5⟩, hb, rowD_of hh, soft_of hh⟩
variable {ops : Array Oper} {rest : List Oper} {a : Act} {Q : Exit → Act → World → Prop}
variable {dst : Option Tmp} {ty t : TypeId} {pos : String} {after : Array Edge} {g : Option (Nat × Bool)} {x y : Operand}
theorem at_append (h : wpList P ops Q (⟨dst, .call { callee := .builtin .append, args := #[x, y], argTypes := #[t, t] }, ty, pos, after, g⟩ :: rest) a w) : wpList P ops Q (⟨dst, .call { callee := .builtin .append, args := #[x, y], argTypes := #[t, t] }, ty, pos, after, g⟩ :: rest) a w := h
end
section
variable {P : Program} {w0 w : World} {L : LV} {ops : Array Oper} {rest : List Oper} {a : Act} {Q : Exit → Act → World → Prop}
variable {dst : Option Tmp} {ty T : TypeId} {pos : String} {after : Array Edge} {g : Option (Nat × Bool)} {x y : Operand}
end
end Go
end

section
/-
 The call's own variables and the slices that it reads, side by side; append to a slice that is full. No program in sight.
-/
namespace Go
open Go.RowKit
def Apart (v : Value) (c : List Value) (L : LV) : Prop := c ≠ [] → ∀ b o n cap, v = .slice (some ⟨b, o, none⟩) n cap → ∀ p ∈ L, p.1 ≠ b
def FR (w w' : World) (k : Nat) (v : Value) (c : List Value) : Prop := Rd w' k v c ∧ (c ≠ [] → ∃ b o n cap, v = .slice (some ⟨b, o, none⟩) n cap ∧ w.heap.size ≤ b)
structure Mem (w0 w : World) (L : LV) (R : LR) : Prop where
 vars : Vars w0 w L
 rds : ∀ x ∈ R, Rd w x.1 x.2.1 x.2.2 ∧ Apart x.2.1 x.2.2 L
theorem Rd.wrote {w w' : World} {b : Nat} {z : Array Value} {k : Nat} {v : Value} {c : List Value} (h : Rd w k v c) (hw : Wrote w w' b z) (ha : c ≠ [] → ∀ b' o n cap, v = .slice (Option.some ⟨b', o, none⟩) n cap → b ≠ b') : Rd w' k v c := by
 obtain ⟨ao, n, cap, rfl, h1, h2, h3, h4, h5⟩ := h
 refine ⟨ao, n, cap, rfl, h1, h2, h3, h4, fun i hi => ?_⟩
 obtain ⟨b', o, e, hb, hc⟩ := h5 i hi
 have hne : b' ≠ b := fun e' => ha (fun e => by rw [e] at hi; simp at hi) b' o n cap (by rw [e]) e'.symm
 exact ⟨b', o, e, by rw [hw.size]; exact hb, by rw [← hc]; exact World.cell?_of_block (w := w) (hw.other b' hne)⟩
section
variable {w0 w w' : World} {L : LV} {R : LR} {k : Nat} {v : Value} {c : List Value}
theorem Mem.nil (w : World) : Mem w w [] [] := ⟨Vars.nil w, fun _ h => (List.not_mem_nil h).elim⟩
theorem Mem.below (h : Mem w0 w L R) : Below w0.heap.size w0 w := h.vars.below
theorem Mem.z {x : Nat × Value × List Value} {l : LR} : x ∈ x :: l := List.Mem.head _
theorem Mem.s {x y : Nat × Value × List Value} {l : LR} (h : x ∈ l) : x ∈ y :: l := List.Mem.tail _ h
theorem Mem.rd (h : Mem w0 w L R) (hm : (k, v, c) ∈ R) : Rd w k v c := (h.rds _ hm).1
theorem Mem.add (h : Mem w0 w L R) (hr : Rd w k v c) (ha : Apart v c L) : Mem w0 w L ((k, v, c) :: R) :=
 ⟨h.vars, fun x hx => by
   rcases List.mem_cons.1 hx with rfl | hx
   · exact ⟨hr, ha⟩
   · exact h.rds x hx⟩
theorem Rd.lt {b o n cap : Nat} (h : Rd w k (.slice (Option.some ⟨b, o, none⟩) n cap) c) (hc : c ≠ []) : b < w.heap.size := by
 obtain ⟨b', o', n', cap', e, _, _, _, hb, _⟩ := h.some (List.length_pos_iff.2 hc)
 cases e; exact hb
theorem Mem.old (h : Mem w0 w L R) (hr : Rd w0 k v c) : Mem w0 w L ((k, v, c) :: R) :=
 h.add (hr.below h.below) (fun hc b o n cap e p hp => by
   subst e
   have := hr.lt hc
   have := (h.vars.rows p hp).2.2
   omega)
theorem Mem.new (h : Mem w0 w L R) (hn : New w w') : Mem w0 w' L R := ⟨h.vars.new hn, fun x hx => ⟨(h.rds x hx).1.new hn, (h.rds x hx).2⟩⟩
theorem Mem.fresh (h : Mem w0 w L R) (hn : New w w') (hr : FR w w' k v c) : Mem w0 w' L ((k, v, c) :: R) :=
 (h.new hn).add hr.1 (fun hc b o n cap e p hp => by
   obtain ⟨b', o', n', cap', e', hb⟩ := hr.2 hc
   rw [e'] at e; cases e
   have := soft_lt (h.vars.rows p hp).2.1
   omega)
theorem Mem.madeAt {b : Nat} {z : Array Value} (h : Mem w0 w L R) (hm : MadeAt w w' b z) : Mem w0 w' ((b, z) :: L) R :=
 ⟨h.vars.madeAt hm, fun x hx => by
   obtain ⟨h1, h2⟩ := h.rds x hx
   obtain ⟨rfl, hm⟩ := hm
   refine ⟨h1.new hm.new, fun hc b o n cap e p hp => ?_⟩
   rcases List.mem_cons.1 hp with rfl | hp
   · rw [e] at h1
     have := h1.lt hc
     simp only; omega
   · exact h2 hc b o n cap e p hp⟩
theorem Mem.set (h : Mem w0 w L R) (i : Nat) {b : Nat} {c0 c1 : Array Value} (hi : L[i]? = some (b, c0)) (hw : Wrote w w' b c1) : Mem w0 w' (L.set i (b, c1)) R :=
 ⟨h.vars.set i hi hw, fun x hx => by
   obtain ⟨h1, h2⟩ := h.rds x hx
   refine ⟨h1.wrote hw fun hc b' o n cap e => h2 hc b' o n cap e _ (List.mem_of_getElem? hi), fun hc b' o n cap e p hp => ?_⟩
   rcases List.mem_or_eq_of_mem_set hp with hp | rfl
   · exact h2 hc b' o n cap e p hp
   · exact h2 hc b' o n cap e (b, c0) (List.mem_of_getElem? hi)⟩
theorem Mem.keep {L' : LV} (h : Mem w0 w L R) (hs : L'.Sublist L) : Mem w0 w L' R := ⟨h.vars.keep hs, fun x hx => ⟨(h.rds x hx).1, fun hc b o n cap e p hp => (h.rds x hx).2 hc b o n cap e p (hs.subset hp)⟩⟩
theorem Mem.keepR {R' : LR} (h : Mem w0 w L R) (hs : ∀ x ∈ R', x ∈ R) : Mem w0 w L R' := ⟨h.vars, fun x hx => h.rds x (hs x hx)⟩
theorem OwnS.fr {e : TypeId} (h : OwnS w w' L e k v c) : FR w w' k v c := by
 refine ⟨h.rd, fun hc => ?_⟩
 rcases h.row with ⟨_, h0⟩ | ⟨x, ⟨n, cap, rfl, _⟩, hx⟩
 · exact absurd h0 hc
 · exact ⟨x.1, 0, n, cap, rfl, (hx.rows x (List.mem_cons_self ..)).2.2⟩
theorem FR.new {w2 : World} (h : FR w w' k v c) (hn : New w' w2) : FR w w2 k v c := ⟨h.1.new hn, h.2⟩
theorem FR.nil (w w' : World) (k : Nat) : FR w w' k (.slice none 0 0) [] := ⟨Rd.nil _ _, fun h => (h rfl).elim⟩
end
section
variable {P : Program} {w : World} {k : Nat}
variable {ops : Array Oper} {rest : List Oper} {a : Act} {Q : Exit → Act → World → Prop}
variable {dst : Option Tmp} {ty t e : TypeId} {pos : String} {after : Array Edge} {g : Option (Nat × Bool)} {x y : Operand}
end
end Go

/-! Loads, stores, new variables: the walk's arms in short. -/
namespace Go
open Go.RowKit
theorem Mem.sets {w0 w w' : World} {L L' : LV} {R : LR} (h : Mem w0 w L R) {b : Nat} {c0 c : Array Value} (hs : SetM b c0 c L L') (hw : Wrote w w' b c) : Mem w0 w' L' R := by
 obtain ⟨i, h1, h2⟩ := hs.at_
 rw [h2]; exact h.set i h1 hw
section
variable {P : Program} {ops : Array Oper} {rest : List Oper} {a : Act} {Q : Exit → Act → World → Prop} {w0 w : World} {L L' : LV} {R : LR}
variable {dst : Option Tmp} {ty : TypeId} {pos : String} {after : Array Edge} {g : Option (Nat × Bool)} {x y : Operand}
theorem gLd (T : TypeId) (h : wpList P ops Q (⟨dst, .load T x, ty, pos, after, g⟩ :: rest) a w) : wpList P ops Q (⟨dst, .load T x, ty, pos, after, g⟩ :: rest) a w := h
theorem gLe (T : TypeId) (d : Tmp) (h : wpList P ops Q (⟨some d, .load T x, ty, pos, after, g⟩ :: rest) a w) : wpList P ops Q (⟨some d, .load T x, ty, pos, after, g⟩ :: rest) a w := h
theorem gSt (T : TypeId) (h : wpList P ops Q (⟨dst, .store T x y, ty, pos, after, g⟩ :: rest) a w) : wpList P ops Q (⟨dst, .store T x y, ty, pos, after, g⟩ :: rest) a w := h
theorem gAl (T : TypeId) (d : Tmp) (h : wpList P ops Q (⟨some d, .alloc T, ty, pos, after, g⟩ :: rest) a w) : wpList P ops Q (⟨some d, .alloc T, ty, pos, after, g⟩ :: rest) a w := h
theorem gBx (T : TypeId) (d : Tmp) (h : wpList P ops Q (⟨some d, .box T x, ty, pos, after, g⟩ :: rest) a w) : wpList P ops Q (⟨some d, .box T x, ty, pos, after, g⟩ :: rest) a w := h
theorem ldC {T : TypeId} (hv : Mem w0 w L R) (b o : Nat) (v : Value) {d : TypeDesc} (hu : P.underlying T = some d) (h : wpList P ops Q rest (a.put dst v) w) {c : Array Value}
   (hgd : Region.wanted (⟨dst, .load T x, ty, pos, after, g⟩ : Oper) (yielded ops a.tmps) = true := by exact rfl) (hx : a.eval x = .pointer (some ⟨b, o, none⟩) := by exact rfl) (hm : (b, c) ∈ L := by repeat first | exact mz | apply ms)
   (hd : d.isRow = false := by exact rfl) (hc : c[o]? = some v := by exact rfl) : wpList P ops Q (⟨dst, .load T x, ty, pos, after, g⟩ :: rest) a w := wl_ldc hgd b o hx c (hv.vars.row hm) d hu hd v hc h
theorem ldV {T : TypeId} (hv : Mem w0 w L R) (b n : Nat) {d : TypeDesc} (hu : P.underlying T = some d) (hi : (P.info? T).map (·.size) = some n) {c : Array Value} (h : wpList P ops Q rest (a.put dst (.agg c)) w)
   (hgd : Region.wanted (⟨dst, .load T x, ty, pos, after, g⟩ : Oper) (yielded ops a.tmps) = true := by exact rfl) (hx : a.eval x = .pointer (some ⟨b, 0, none⟩) := by exact rfl) (hm : (b, c) ∈ L := by repeat first | exact mz | apply ms)
   (hd : d.isRow = true := by exact rfl) (hn : 0 < n := by decide) (hs : c.size = n := by exact rfl) : wpList P ops Q (⟨dst, .load T x, ty, pos, after, g⟩ :: rest) a w := wl_ldv hgd b hx c (hv.vars.row hm) n d hu hd hi hn hs h
theorem nwB {o : Oper} (hv : Mem w0 w L R) (z : Array Value) (t : TypeId) (h : ∀ b w', Mem w0 w' ((b, z) :: L) R → wpList P ops Q rest (a.put o.dst (.pointer (some ⟨b, 0, none⟩))) w')
   (hgd : Region.wanted o (yielded ops a.tmps) = true := by exact rfl) (hr : ∀ w, (execOp a.eval o).run P w = .ok (.value (.pointer (some ⟨w.heap.size, 0, none⟩))) (w.alloc (.cells z t)) := by exact fun _ => rfl) : wpList P ops Q (o :: rest) a w :=
 wl_newb hgd z t hr fun b w' hm => h b w' (hv.madeAt hm)
theorem stC {T : TypeId} (hv : Mem w0 w L R) (b o : Nat) (v : Value) {c0 c : Array Value} (h : ∀ w', Mem w0 w' L' R → wpList P ops Q rest (a.put dst undef) w')
   (hgd : Region.wanted (⟨dst, .store T x y, ty, pos, after, g⟩ : Oper) (yielded ops a.tmps) = true := by exact rfl) (hx : a.eval x = .pointer (some ⟨b, o, none⟩) := by exact rfl) (hy : a.eval y = v := by exact rfl)
   (hs : SetM b c0 c L L' ∧ c0.setIfInBounds o v = c := by (constructor; (repeat first | apply SetM.z | apply SetM.s); (simp only [sia, scs, scz]; exact rfl))) (hi : (P.info? T).map (·.size) = some 1 := by kernel_rfl) (h1 : v.oneCell' = true := by exact rfl) (h0 : o < c0.size := by first | exact Nat.le_of_ble_eq_true rfl | simp) :
   wpList P ops Q (⟨dst, .store T x y, ty, pos, after, g⟩ :: rest) a w := by
 obtain ⟨hs, hc⟩ := hs
 obtain ⟨i, hm, _⟩ := hs.at_
 have hm := List.mem_of_getElem? hm
 exact wl_stc hgd b o hx v hy c0 (hv.vars.row hm) (hv.vars.sft hm) hi h1 h0 fun w' hw => h w' (hv.sets hs (hc ▸ hw))
theorem stV {T : TypeId} (hv : Mem w0 w L R) (b n : Nat) (hi : (P.info? T).map (·.size) = some n) {c0 c : Array Value} (h : ∀ w', Mem w0 w' L' R → wpList P ops Q rest (a.put dst undef) w')
   (hgd : Region.wanted (⟨dst, .store T x y, ty, pos, after, g⟩ : Oper) (yielded ops a.tmps) = true := by exact rfl) (hx : a.eval x = .pointer (some ⟨b, 0, none⟩) := by exact rfl) (hy : a.eval y = .agg c := by exact rfl)
   (hs : SetM b c0 c L L' := by repeat first | exact .z | apply SetM.s) (hc : c.size = n := by exact rfl) (h0 : c0.size = n := by exact rfl) (h1 : c.all (·.oneCell') = true := by simp [Value.oneCell']) :
   wpList P ops Q (⟨dst, .store T x y, ty, pos, after, g⟩ :: rest) a w := by
 obtain ⟨i, hm, _⟩ := hs.at_
 have hm := List.mem_of_getElem? hm
 exact wl_stv hgd b hx c hy c0 (hv.vars.row hm) (hv.vars.sft hm) n hi hc h0 h1 fun w' hw => h w' (hv.sets hs hw)
end
end Go
end
