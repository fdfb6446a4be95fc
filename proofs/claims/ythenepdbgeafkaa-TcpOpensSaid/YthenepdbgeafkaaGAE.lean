import Derived.WalkKit
import Derived.Deep.MidRow
import Derived.Deep.Draws
import Derived.Laws.StructEq
import Derived.Lib.Hide
import Derived.BigQuiet
set_option linter.unusedSimpArgs false
set_option linter.unusedVariables false
section
/-
 Words and laws of our own that every walk below uses: a block's cells by its number, arrays and structs by value out of and into a block, equality of flat values. No program in sight.
-/
namespace Go
abbrev LV := List (Nat × Array Value)
abbrev LR := List (Nat × Value × List Value)
end Go
namespace Go
open Go.RowKit
/-- The cells of a block. -/
def World.rowD (w : World) (b : Nat) : Array Value := match w.heap[b]? with | some (.cells c _ _) => c | _ => #[]
/-- A block of cells of which none is frozen. -/
def World.soft (w : World) (b : Nat) : Bool := match w.heap[b]? with | some (.cells _ _ (lo, hi)) => lo == 0 && hi == 0 | _ => false

theorem rowD_of {w : World} {b : Nat} {c : Array Value} {t : TypeId} {fr : Nat × Nat} (h : w.heap[b]? = some (.cells c t fr)) : w.rowD b = c := by simp [World.rowD, h]
theorem soft_of {w : World} {b : Nat} {c : Array Value} {t : TypeId} (h : w.heap[b]? = some (.cells c t (0, 0))) : w.soft b = true := by simp [World.soft, h]
theorem soft_heap {w : World} {b : Nat} (h : w.soft b = true) : ∃ t, w.heap[b]? = some (.cells (w.rowD b) t (0, 0)) := by
 unfold World.soft at h
 unfold World.rowD
 split at h
 · rename_i c t lo hi e
   simp only [Bool.and_eq_true, beq_iff_eq] at h
   obtain ⟨rfl, rfl⟩ := h
   exact ⟨t, by rw [e]⟩
 · cases h
theorem rowD_block {w : World} {b : Nat} (h : 0 < (w.rowD b).size) : ∃ t fr, w.heap[b]? = some (.cells (w.rowD b) t fr) := by
 unfold World.rowD at *
 split
 · rename_i c t fr e; exact ⟨t, fr, e⟩
 · rename_i e; exfalso
   split at h
   · rename_i c t fr e'; exact e _ _ _ e'
   · simp at h
theorem cell_rowD {w : World} {b i : Nat} : w.cell? ⟨b, i, none⟩ = (w.rowD b)[i]? := by
 unfold World.cell? World.rowD
 split <;> simp_all
theorem rowD_congr {w w' : World} {b : Nat} (h : w'.heap[b]? = w.heap[b]?) : w'.rowD b = w.rowD b := by unfold World.rowD; rw [h]
theorem soft_congr {w w' : World} {b : Nat} (h : w'.heap[b]? = w.heap[b]?) : w'.soft b = w.soft b := by unfold World.soft; rw [h]

section
variable (w : World)
@[go_sem] theorem rowD_drew (b : Nat) : w.drew.rowD b = w.rowD b := rfl
@[go_sem] theorem rowD_drewN (n b : Nat) : (w.drewN n).rowD b = w.rowD b := rfl
@[go_sem] theorem soft_drew (b : Nat) : w.drew.soft b = w.soft b := rfl
@[go_sem] theorem soft_drewN (n b : Nat) : (w.drewN n).soft b = w.soft b := rfl
@[go_sem] theorem rowD_alloc_at (c : Array Value) (t : TypeId) (n : Nat) (hn : n = w.heap.size) : (w.alloc (.cells c t)).rowD n = c := by
 subst hn; exact rowD_of (heap_alloc_new w _)
@[go_sem] theorem soft_alloc_at (c : Array Value) (t : TypeId) (n : Nat) (hn : n = w.heap.size) : (w.alloc (.cells c t)).soft n = true := by
 subst hn; exact soft_of (heap_alloc_new w _)
@[go_sem] theorem rowD_alloc_past (o : Obj) (n : Nat) (hn : n < w.heap.size) : (w.alloc o).rowD n = w.rowD n := rowD_congr (Below.heap_alloc w o n hn)
@[go_sem] theorem soft_alloc_past (o : Obj) (n : Nat) (hn : n < w.heap.size) : (w.alloc o).soft n = w.soft n := soft_congr (Below.heap_alloc w o n hn)
@[go_sem] theorem setRow_alloc_at (c c' : Array Value) (t : TypeId) (n : Nat) (hn : n = w.heap.size) : (w.alloc (.cells c t)).setRow n c' = w.alloc (.cells c' t) := by
 subst hn
 simp only [World.setRow, World.alloc]
 congr 1
 apply Array.ext_getElem?
 intro i
 rw [Array.getElem?_modify]
 by_cases h : w.heap.size = i
 · subst h; simp
 · have h' : ¬ i = w.heap.size := fun e => h e.symm
   simp [h, h', Array.getElem?_push]
@[go_sem] theorem setRow_alloc_past (o : Obj) (c : Array Value) (n : Nat) (hn : n < w.heap.size) : (w.alloc o).setRow n c = (w.setRow n c).alloc o := by
 simp only [World.setRow, World.alloc]
 congr 1
 apply Array.ext_getElem?
 intro i
 rw [Array.getElem?_modify, Array.getElem?_push, Array.getElem?_push]
 simp only [Array.size_modify, Array.getElem?_modify]
 by_cases h : n = i
 · subst h
   have : ¬ n = w.heap.size := by omega
   simp [this]
 · simp [h]
@[go_sem] theorem rowD_setRow_other (b k : Nat) (c : Array Value) (h : k ≠ b) : (w.setRow b c).rowD k = w.rowD k := rowD_congr (setRow_other w b k c h)
@[go_sem] theorem soft_setRow_other (b k : Nat) (c : Array Value) (h : k ≠ b) : (w.setRow b c).soft k = w.soft k := soft_congr (setRow_other w b k c h)
theorem rowD_setRow_same (b : Nat) (c : Array Value) (h : w.soft b = true) : (w.setRow b c).rowD b = c := by
 obtain ⟨t, ht⟩ := soft_heap h
 exact rowD_of (setRow_heap w b _ c t _ ht)
theorem soft_setRow_same (b : Nat) (c : Array Value) (h : w.soft b = true) : (w.setRow b c).soft b = true := by
 obtain ⟨t, ht⟩ := soft_heap h
 exact soft_of (setRow_heap w b _ c t _ ht)
end

/-- Some cells of a row written over. -/
def splice (c : Array Value) (o : Nat) (vs : Array Value) : Array Value := c.extract 0 o ++ vs ++ c.extract (o + vs.size) c.size
theorem size_splice (c : Array Value) (o : Nat) (vs : Array Value) (h : o + vs.size ≤ c.size) : (splice c o vs).size = c.size := by
 simp [splice]; omega
theorem get_splice (c : Array Value) (o : Nat) (vs : Array Value) (h : o + vs.size ≤ c.size) (i : Nat) :
   (splice c o vs)[i]? = if i < o then c[i]? else if i < o + vs.size then vs[i - o]? else c[i]? := by
 unfold splice
 rw [Array.getElem?_append, Array.getElem?_append]
 simp only [Array.size_append, Array.size_extract, Array.getElem?_extract]
 by_cases h1 : i < o
 · rw [if_pos h1, if_pos (by omega), if_pos (by omega), if_pos (by omega)]; congr 1; omega
 · rw [if_neg h1]
   by_cases h2 : i < o + vs.size
   · rw [if_pos h2, if_pos (by omega), if_neg (by omega)]; congr 1; omega
   · rw [if_neg h2, if_neg (by omega)]
     by_cases h3 : i < c.size
     · rw [if_pos (by omega)]; congr 1; omega
     · rw [if_neg (by omega), Array.getElem?_eq_none (by omega)]

theorem setCells_row : ∀ (vs : List Value) (w : World) (b o : Nat), w.soft b = true → o + vs.length ≤ (w.rowD b).size → w.setCells b o vs = w.setRow b (splice (w.rowD b) o vs.toArray) := by
 intro vs
 induction vs with
 | nil =>
   intro w b o hs ho
   obtain ⟨t, ht⟩ := soft_heap hs
   have e : splice (w.rowD b) o #[] = w.rowD b := by
     apply Array.ext_getElem?
     intro i
     rw [get_splice _ _ _ (by simpa using ho)]
     simp
     intro h1 h2; omega
   have e' : splice (w.rowD b) o ([] : List Value).toArray = w.rowD b := e
   rw [World.setCells, e']
   exact (setRow_self w b _ t _ ht).symm
 | cons v r ih =>
   intro w b o hs ho
   simp only [List.length_cons] at ho
   obtain ⟨t, ht⟩ := soft_heap hs
   have e1 := setCell_eq_setRow w b o _ t (0, 0) v ht
   have s1 : (w.setCell ⟨b, o, none⟩ v).soft b = true := by rw [e1]; exact soft_setRow_same _ _ _ hs
   have r1 : (w.setCell ⟨b, o, none⟩ v).rowD b = (w.rowD b).setIfInBounds o v := by rw [e1]; exact rowD_setRow_same _ _ _ hs
   rw [World.setCells, ih _ b (o + 1) s1 (by rw [r1]; simp; omega), r1, e1, setRow_setRow]
   congr 1
   apply Array.ext_getElem?
   intro i
   rw [get_splice _ _ _ (by simp; omega), get_splice _ _ _ (by simp; omega)]
   simp only [List.size_toArray, List.length_cons, Array.getElem?_setIfInBounds]
   by_cases h1 : i < o
   · rw [if_pos (by omega), if_neg (by omega), if_pos h1]
   · rw [if_neg h1]
     by_cases h2 : i = o
     · subst h2
       rw [if_pos (by omega), if_pos rfl, if_pos (by omega), if_pos (by omega), Nat.sub_self]; rfl
     · rw [if_neg (by omega : ¬ i < o + 1)]
       by_cases h3 : i < o + 1 + r.length
       · rw [if_pos h3, if_pos (by omega), show i - o = (i - (o + 1)) + 1 from by omega]
         simp
       · rw [if_neg h3, if_neg (by omega), if_neg (by omega)]

section
variable {P : Program}
theorem wpList_want {ops : Array Oper} {rest : List Oper} {o : Oper} {a : Act} {w : World} {Q : Exit → Act → World → Prop} (hw : Region.wanted o (yielded ops a.tmps) = true)
   (h : ∀ K : Act → World → Prop, (∀ a w, wpList P ops Q rest a w → K a w) → o.wp P a w K Q) : wpList P ops Q (o :: rest) a w :=
 wpList_step fun K hK => by rw [if_pos hw]; exact h K hK
/-- A STRUCT OR ARRAY BY VALUE, OUT OF ANY BLOCK. -/
theorem wpList_load_any {ops : Array Oper} {rest : List Oper} {op : Oper} {a : Act} {w : World} {Q : Exit → Act → World → Prop} (hgd : Region.wanted op (yielded ops a.tmps) = true) (ty : TypeId) (x : Operand) (ho : op.op = .load ty x)
   (b o : Nat) (hx : a.eval x = .pointer (some ⟨b, o, none⟩)) (n : Nat) (d : TypeDesc) (hu : P.underlying ty = some d) (hd : d.isRow = true) (hi : (P.info? ty).map (·.size) = some n) (hn : 0 < n)
   (hs : o + n ≤ (w.rowD b).size) (h : wpList P ops Q rest (a.put op.dst (.agg ((w.rowD b).extract o (o + n)))) w) : wpList P ops Q (op :: rest) a w := by
 obtain ⟨t, fr, ht⟩ := rowD_block (w := w) (b := b) (by omega)
 have hr := World.rangeAt_of_block ht o n
 have hl : ((w.rowD b).extract o (o + n)).toList.length = n := by simp; omega
 exact wpList_want hgd fun _ hK => wp_load_mid ty x ho b o hx ((w.rowD b).extract o (o + n)).toList d hr hu hd (hi.trans (congrArg some hl.symm)) (hK _ _ (by rw [Array.toArray_toList]; exact h))

/-- A STRUCT OR ARRAY BY VALUE, INTO ANY BLOCK. -/
theorem wpList_store_any {ops : Array Oper} {rest : List Oper} {op : Oper} {a : Act} {w : World} {Q : Exit → Act → World → Prop} (hgd : Region.wanted op (yielded ops a.tmps) = true) (ty : TypeId) (x y : Operand) (ho : op.op = .store ty x y)
   (b o : Nat) (cells : Array Value) (hx : a.eval x = .pointer (some ⟨b, o, none⟩)) (hy : a.eval y = .agg cells) (n : Nat) (hi : (P.info? ty).map (·.size) = some n) (hc : cells.size = n)
   (h1 : cells.all (·.oneCell') = true) (hsoft : w.soft b = true) (hs : o + n ≤ (w.rowD b).size)
   (h : wpList P ops Q rest (a.put op.dst undef) (w.setRow b (splice (w.rowD b) o cells))) : wpList P ops Q (op :: rest) a w := by
 have e := setCells_row cells.toList w b o hsoft (by simp; omega)
 obtain ⟨t, ht⟩ := soft_heap hsoft
 refine wpList_want hgd fun _ hK => wp_store_mid ty x y ho b o cells hx hy ?_ (by rw [hc]; exact hi) h1 (hK _ _ (by rw [e]; simpa using h))
 intro j hj
 refine ⟨?_, frozen_of_row w b _ _ t ht⟩
 rw [cell_rowD, Array.getElem?_eq_getElem (by omega)]; rfl
end

/-- A WORLD BEHIND A WRITE INTO BLOCK b: that block's cells are c; all else is as it was. -/
structure Wrote (w w' : World) (b : Nat) (c : Array Value) : Prop where
 row : w'.rowD b = c
 soft : w'.soft b = true
 other : ∀ k, k ≠ b → w'.heap[k]? = w.heap[k]?
 size : w'.heap.size = w.heap.size
 os : w'.os = w.os
 tape : w'.tape = w.tape
 output : w'.output = w.output
theorem Wrote.rowO {w w' : World} {b : Nat} {c : Array Value} (h : Wrote w w' b c) {k : Nat} (hk : k ≠ b) : w'.rowD k = w.rowD k := rowD_congr (h.other k hk)
theorem Wrote.softO {w w' : World} {b : Nat} {c : Array Value} (h : Wrote w w' b c) {k : Nat} (hk : k ≠ b) : w'.soft k = w.soft k := soft_congr (h.other k hk)
theorem Wrote.below {B : Nat} {a w w' : World} {b : Nat} {c : Array Value} (h : Wrote w w' b c) (hb : Below B a w) (hB : B ≤ b) : Below B a w' :=
 ⟨h.os.trans hb.os, h.tape.trans hb.tape, h.output.trans hb.output, by rw [h.size]; exact hb.size, fun k hk => (h.other k (by omega)).trans (hb.block k hk)⟩
theorem wrote_setRow {w : World} {b : Nat} {c : Array Value} (h : w.soft b = true) : Wrote w (w.setRow b c) b c :=
 ⟨rowD_setRow_same w b c h, soft_setRow_same w b c h, fun k hk => setRow_other w b k c hk, by simp, rfl, rfl, rfl⟩
theorem soft_lt {w : World} {b : Nat} (h : w.soft b = true) : b < w.heap.size := by
 obtain ⟨t, ht⟩ := soft_heap h
 rcases Nat.lt_or_ge b w.heap.size with g | g
 · exact g
 · rw [Array.getElem?_eq_none g] at ht; cases ht

section
variable {P : Program}
/-- A STRUCT OR ARRAY BY VALUE, INTO ANY BLOCK; the world behind it under a new name. -/
theorem wpList_store_agg {ops : Array Oper} {rest : List Oper} {op : Oper} {a : Act} {w : World} {Q : Exit → Act → World → Prop} (hgd : Region.wanted op (yielded ops a.tmps) = true) (ty : TypeId) (x y : Operand) (ho : op.op = .store ty x y)
   (b o : Nat) (cells : Array Value) (hx : a.eval x = .pointer (some ⟨b, o, none⟩)) (hy : a.eval y = .agg cells) (n : Nat) (hi : (P.info? ty).map (·.size) = some n) (hc : cells.size = n)
   (h1 : cells.all (·.oneCell') = true) (hsoft : w.soft b = true) (hs : o + n ≤ (w.rowD b).size)
   (h : ∀ w', Wrote w w' b (splice (w.rowD b) o cells) → wpList P ops Q rest (a.put op.dst undef) w') : wpList P ops Q (op :: rest) a w :=
 wpList_store_any hgd ty x y ho b o cells hx hy n hi hc h1 hsoft hs (h _ (wrote_setRow hsoft))

/-- ONE CELL, INTO ANY BLOCK; the world behind it under a new name. -/
theorem wpList_store_cell {ops : Array Oper} {rest : List Oper} {op : Oper} {a : Act} {w : World} {Q : Exit → Act → World → Prop} (hgd : Region.wanted op (yielded ops a.tmps) = true) (ty : TypeId) (x y : Operand) (ho : op.op = .store ty x y)
   (b o : Nat) (v : Value) (hx : a.eval x = .pointer (some ⟨b, o, none⟩)) (hy : a.eval y = v) (hi : (P.info? ty).map (·.size) = some 1)
   (h1 : v.oneCell' = true) (hsoft : w.soft b = true) (hs : o < (w.rowD b).size)
   (h : ∀ w', Wrote w w' b ((w.rowD b).setIfInBounds o v) → wpList P ops Q rest (a.put op.dst undef) w') : wpList P ops Q (op :: rest) a w := by
 obtain ⟨t, ht⟩ := soft_heap hsoft
 refine wpList_want hgd fun K hK => ?_
 unfold Oper.wp execOp
 have hc : w.cell? ⟨b, o, none⟩ = some (w.rowD b)[o] := by rw [cell_rowD, Array.getElem?_eq_getElem hs]
 have hf : w.frozen? ⟨b, o, none⟩ = false := frozen_of_row w b o _ t ht
 have hv : v.cells = #[v] := by cases v <;> first | rfl | cases h1
 cases hq : P.info? ty with
 | none => simp [hq] at hi
 | some i =>
   have hsz : i.size = 1 := by simpa [hq] using hi
   have hrun : (storeVar ty ⟨b, o, none⟩ v).run P w = .ok () (w.setCell ⟨b, o, none⟩ v) := by
     simp [storeVar, sizeOf, typeInfo, hq, hv, hsz, storeCells, Addr.add, run_store, h1, hc, hf]
   simp only [ho, hx, hy, Instr.storeAt, Instr.sureAddr, Sem.run_bind, Sem.run_pure, Result.andThen_ok, hrun]
   refine hK _ _ (h _ ?_)
   rw [setCell_eq_setRow w b o _ t (0, 0) v ht]
   exact wrote_setRow hsoft

/-- A struct or array by value, as a result is read. -/
theorem run_loadVar_any (w : World) (b o : Nat) (ty : TypeId) (n : Nat) (d : TypeDesc) (hu : P.underlying ty = some d) (hd : d.isRow = true) (hi : (P.info? ty).map (·.size) = some n) (hn : 0 < n)
   (hs : o + n ≤ (w.rowD b).size) : (loadVar ty ⟨b, o, none⟩).run P w = .ok (.agg ((w.rowD b).extract o (o + n))) w := by
 obtain ⟨t, fr, ht⟩ := rowD_block (w := w) (b := b) (by omega)
 have hr := World.rangeAt_of_block ht o n
 have hl : ((w.rowD b).extract o (o + n)).toList.length = n := by simp; omega
 have e := run_loadVar_mid (P := P) w b o ty ((w.rowD b).extract o (o + n)).toList d hr hu hd (hi.trans (congrArg some hl.symm))
 rw [Array.toArray_toList] at e
 exact e
end

section
variable {P : Program} {fn : Func} {R : Ending → World → Prop} {a : Act} {w : World}
/-! A return whose first result lies in memory. -/
theorem ret_cell1 {p : Tmp} {ty : TypeId} {ad : Addr} {v : Value} (h : fn.results = #[.cell p ty]) (hp : a.tmps.getD p undef = .pointer (some ad)) (hl : (loadVar ty ad).run P w = .ok v w)
   (hd : a.defers = []) (hR : R (.returned v) w) : bodyPost P fn R .ret a w :=
 bodyPost_ret (v := v) (by have hp' : a.tmps[p]?.getD undef = .pointer (some ad) := by simpa using hp
                           simp [results, h, hp', asAddr, hl]) hd hR
theorem ret_cell2 {p t1 : Tmp} {ty : TypeId} {ad : Addr} {v v1 : Value} (h : fn.results = #[.cell p ty, .tmp t1]) (hp : a.tmps.getD p undef = .pointer (some ad)) (hl : (loadVar ty ad).run P w = .ok v w)
   (h1 : a.tmps.getD t1 undef = v1) (hd : a.defers = []) (hR : R (.returned (.tuple #[v, v1])) w) : bodyPost P fn R .ret a w :=
 bodyPost_ret (v := .tuple #[v, v1]) (by have hp' : a.tmps[p]?.getD undef = .pointer (some ad) := by simpa using hp
                                         have h1' : a.tmps[t1]?.getD undef = v1 := by simpa using h1
                                         simp [results, h, hp', asAddr, hl, h1']) hd hR
theorem ret_cell3 {p t1 t2 : Tmp} {ty : TypeId} {ad : Addr} {v v1 v2 : Value} (h : fn.results = #[.cell p ty, .tmp t1, .tmp t2]) (hp : a.tmps.getD p undef = .pointer (some ad)) (hl : (loadVar ty ad).run P w = .ok v w)
   (h1 : a.tmps.getD t1 undef = v1) (h2 : a.tmps.getD t2 undef = v2) (hd : a.defers = []) (hR : R (.returned (.tuple #[v, v1, v2])) w) : bodyPost P fn R .ret a w :=
 bodyPost_ret (v := .tuple #[v, v1, v2]) (by have hp' : a.tmps[p]?.getD undef = .pointer (some ad) := by simpa using hp
                                             have h1' : a.tmps[t1]?.getD undef = v1 := by simpa using h1
                                             have h2' : a.tmps[t2]?.getD undef = v2 := by simpa using h2
                                             simp [results, h, hp', asAddr, hl, h1', h2']) hd hR
end

section
variable {P : Program}
end

/-! Blocks that a call has laid, behind calls that only make new memory. -/
theorem ret_i {k : IntKind} {a b : Int} (h : a = b) : Ending.returned (.int k a) = .returned (.int k b) := by rw [h]
/-- Only new memory. -/
abbrev New (w w' : World) : Prop := Below w.heap.size w w'
theorem New.row {w w' : World} (h : New w w') {b : Nat} (hb : b < w.heap.size) : w'.rowD b = w.rowD b := rowD_congr (h.block b hb)
theorem New.soft {w w' : World} (h : New w w') {b : Nat} (hb : b < w.heap.size) : w'.soft b = w.soft b := soft_congr (h.block b hb)
theorem New.to {w w' w2 : World} (h : New w w') (k : New w' w2) : New w w2 := Below.trans h (k.mono h.size)
structure Vars (w0 w : World) (L : LV) : Prop where
 below : Below w0.heap.size w0 w
 rows : ∀ p ∈ L, w.rowD p.1 = p.2 ∧ w.soft p.1 = true ∧ w0.heap.size ≤ p.1
 apart : (L.map (·.1)).Nodup
theorem Vars.nil (w : World) : Vars w w [] := ⟨Below.refl _ _, fun _ h => (List.not_mem_nil h).elim, List.nodup_nil⟩
theorem Vars.row {w0 w : World} {L : LV} (h : Vars w0 w L) {b : Nat} {c : Array Value} (hm : (b, c) ∈ L) : w.rowD b = c := (h.rows _ hm).1
theorem Vars.sft {w0 w : World} {L : LV} (h : Vars w0 w L) {b : Nat} {c : Array Value} (hm : (b, c) ∈ L) : w.soft b = true := (h.rows _ hm).2.1
theorem Vars.lt {w0 w : World} {L : LV} (h : Vars w0 w L) {b : Nat} {c : Array Value} (hm : (b, c) ∈ L) : b < w.heap.size := soft_lt (h.sft hm)
theorem Vars.new {w0 w w' : World} {L : LV} (h : Vars w0 w L) (hn : New w w') : Vars w0 w' L :=
 ⟨Below.trans h.below (hn.mono h.below.size), fun p hp => by
   obtain ⟨h1, h2, h3⟩ := h.rows p hp
   have hl := soft_lt h2
   exact ⟨by rw [hn.row hl]; exact h1, by rw [hn.soft hl]; exact h2, h3⟩, h.apart⟩
theorem Vars.drewN {w0 w : World} {L : LV} (h : Vars w0 w L) (n : Nat) : Vars w0 (w.drewN n) L := ⟨⟨h.below.os, h.below.tape, h.below.output, h.below.size, h.below.block⟩, h.rows, h.apart⟩
/-- A block laid and filled. -/
structure Made (w w' : World) (c : Array Value) : Prop where
 new : New w w'
 row : w'.rowD w.heap.size = c
 soft : w'.soft w.heap.size = true
theorem Vars.made {w0 w w' : World} {L : LV} {c : Array Value} (h : Vars w0 w L) (hm : Made w w' c) : Vars w0 w' ((w.heap.size, c) :: L) := by
 have hn := h.new hm.new
 refine ⟨hn.below, ?_, ?_⟩
 · intro p hp
   rcases List.mem_cons.1 hp with rfl | hp
   · exact ⟨hm.row, hm.soft, h.below.size⟩
   · exact hn.rows p hp
 · rw [List.map_cons, List.nodup_cons]
   refine ⟨fun hc => ?_, h.apart⟩
   obtain ⟨p, hp, he⟩ := List.mem_map.1 hc
   have := soft_lt (h.rows p hp).2.1
   simp only at he; omega
theorem made_alloc (w : World) (c : Array Value) (t : TypeId) : Made w (w.alloc (.cells c t)) c :=
 ⟨(Below.refl _ _).alloc (Nat.le_refl _) _, rowD_alloc_at w c t _ rfl, soft_alloc_at w c t _ rfl⟩
theorem Vars.set {w0 w w' : World} {L : LV} (h : Vars w0 w L) (i : Nat) {b : Nat} {c0 c : Array Value} (hi : L[i]? = some (b, c0)) (hw : Wrote w w' b c) : Vars w0 w' (L.set i (b, c)) := by
 have hmem : (b, c0) ∈ L := List.mem_of_getElem? hi
 obtain ⟨_, hs, hge⟩ := h.rows _ hmem
 have hmap : (L.set i (b, c)).map (·.1) = L.map (·.1) := by
   rw [List.map_set]
   apply List.ext_getElem?
   intro j
   rw [List.getElem?_set]
   split
   · rename_i e; subst e
     obtain ⟨hl, he⟩ := List.getElem?_eq_some_iff.1 hi
     simp [hl, he]
   · rfl
 refine ⟨hw.below h.below hge, ?_, by rw [hmap]; exact h.apart⟩
 intro p hp
 obtain ⟨j, hj⟩ := List.mem_iff_getElem?.1 hp
 rw [List.getElem?_set] at hj
 split at hj
 · rename_i e
   split at hj
   · cases hj; exact ⟨hw.row, hw.soft, hge⟩
   · cases hj
 · rename_i hne
   have hm : p ∈ L := List.mem_of_getElem? hj
   obtain ⟨h1, h2, h3⟩ := h.rows p hm
   have hpb : p.1 ≠ b := by
     intro e
     have a1 : (L.map (·.1))[i]? = some b := by rw [List.getElem?_map, hi]; rfl
     have a2 : (L.map (·.1))[j]? = some b := by rw [List.getElem?_map, hj, ← e]; rfl
     have l1 := (List.getElem?_eq_some_iff.1 a1)
     have l2 := (List.getElem?_eq_some_iff.1 a2)
     obtain ⟨l1, e1⟩ := l1
     obtain ⟨l2, e2⟩ := l2
     exact hne ((List.getElem_inj h.apart).1 (e1.trans e2.symm))
   exact ⟨by rw [hw.rowO hpb]; exact h1, by rw [hw.softO hpb]; exact h2, h3⟩

/-! A REGION THAT DRAWS ITS ORDER, whose operations and callees keep a class of worlds: one walk in the text's order. -/
section
variable {P : Program} {C : World → Prop} {a : Act}
/-- A struct or array by value, loaded in whatever world of the class. -/
theorem quiet_load_any {o : Oper} {K : Act → Prop} (ty : TypeId) (x : Operand) (ho : o.op = .load ty x) (b off : Nat) (hx : a.eval x = .pointer (some ⟨b, off, none⟩)) (n : Nat) (d : TypeDesc) (hu : P.underlying ty = some d) (hd : d.isRow = true)
   (hi : (P.info? ty).map (·.size) = some n) (hn : 0 < n) (c : Array Value) (hC : ∀ w, C w → off + n ≤ (w.rowD b).size ∧ (w.rowD b).extract off (off + n) = c) (hk : K (a.put o.dst (.agg c))) : o.quiet P a C K := by
 refine ⟨_, fun w hw => ?_, hk⟩
 obtain ⟨h1, h2⟩ := hC w hw
 have hl := run_loadVar_any (P := P) w b off ty n d hu hd hi hn h1
 unfold Oper.quietAt execOp
 simp only [ho, hx, Instr.loadAt, Instr.sureAddr, Sem.run_bind, Sem.run_pure, Result.andThen_ok, hl, h2]
 exact ⟨rfl, rfl⟩
/-- A cell, loaded in whatever world of the class. -/
theorem quiet_load_cell {o : Oper} {K : Act → Prop} (ty : TypeId) (x : Operand) (ho : o.op = .load ty x) (b off : Nat) (hx : a.eval x = .pointer (some ⟨b, off, none⟩)) (d : TypeDesc) (hu : P.underlying ty = some d) (hd : d.isRow = false)
   (v : Value) (hC : ∀ w, C w → (w.rowD b)[off]? = some v) (hk : K (a.put o.dst v)) : o.quiet P a C K := by
 refine ⟨_, fun w hw => ?_, hk⟩
 have h1 := hC w hw
 rw [← cell_rowD] at h1
 have hagg : (isAgg ty).run P w = .ok false w := by
   unfold isAgg
   rw [Sem.run_bind, run_underlying hu w]
   cases d <;> simp_all
 have hl : (loadVar ty ⟨b, off, none⟩).run P w = .ok v w := by
   simp only [loadVar, Sem.run_bind, hagg, Result.andThen_ok, Bool.false_eq_true, if_false]
   simp [load, Sem.run, h1]
 unfold Oper.quietAt execOp
 simp only [ho, hx, Instr.loadAt, Instr.sureAddr, Sem.run_bind, Sem.run_pure, Result.andThen_ok, hl]
 exact ⟨rfl, rfl⟩
end
end Go

/-! Short names, so that the walks' texts stay small. -/
namespace Go
theorem sia {α : Type _} (l : List α) (i : Nat) (a : α) : l.toArray.setIfInBounds i a = (l.set i a).toArray := List.setIfInBounds_toArray ..
theorem scs {α : Type _} (l : List α) (i : Nat) (x y : α) : (x :: l).set (i + 1) y = x :: l.set i y := rfl
theorem scz {α : Type _} (l : List α) (x y : α) : (x :: l).set 0 y = y :: l := rfl
theorem mz {α : Type _} {a : α} {l : List α} : a ∈ a :: l := .head _
theorem ms {α : Type _} {a b : α} {l : List α} (h : a ∈ l) : a ∈ b :: l := .tail _ h
inductive SetM (b : Nat) (c c' : Array Value) : LV → LV → Prop
 | z {l : LV} : SetM b c c' ((b, c) :: l) ((b, c') :: l)
 | s {x : Nat × Array Value} {l l' : LV} : SetM b c c' l l' → SetM b c c' (x :: l) (x :: l')
theorem SetM.at_ {b : Nat} {c c' : Array Value} {l l' : LV} (h : SetM b c c' l l') : ∃ i, l[i]? = some (b, c) ∧ l' = l.set i (b, c') := by
 induction h with
 | z => exact ⟨0, rfl, rfl⟩
 | s _ ih => obtain ⟨i, h1, h2⟩ := ih; exact ⟨i + 1, h1, by rw [h2]; rfl⟩
theorem Vars.sets {w0 w w' : World} {L L' : LV} (h : Vars w0 w L) {b : Nat} {c0 c : Array Value} (hs : SetM b c0 c L L') (hw : Wrote w w' b c) : Vars w0 w' L' := by
 obtain ⟨i, h1, h2⟩ := hs.at_
 rw [h2]; exact h.set i h1 hw
theorem Vars.ro {w0 w : World} {L : LV} (h : Vars w0 w L) {b : Nat} {c : Array Value} (hm : (b, c) ∈ L := by repeat first | exact mz | apply ms) : w.rowD b = c := h.row hm
theorem Vars.so {w0 w : World} {L : LV} (h : Vars w0 w L) {b : Nat} {c : Array Value} (hm : (b, c) ∈ L := by repeat first | exact mz | apply ms) : w.soft b = true := h.sft hm
end Go
end

section
/-
 Laws for a walk's arms, whatever the type: a variable that lies in a block of the call's own (Vars) is laid, read, written, whole or in part. No program in sight.
-/
namespace Go
open Go.RowKit
structure MadeAt (w w' : World) (b : Nat) (c : Array Value) : Prop where
 at' : b = w.heap.size
 made : Made w w' c
theorem Vars.madeAt {w0 w w' : World} {L : LV} {b : Nat} {c : Array Value} (h : Vars w0 w L) (hm : MadeAt w w' b c) : Vars w0 w' ((b, c) :: L) := by
 obtain ⟨rfl, hm⟩ := hm
 exact h.made hm
section
variable {P : Program} {ops : Array Oper} {rest : List Oper} {a : Act} {w : World} {Q : Exit → Act → World → Prop}
variable {dst : Option Tmp} {ty T : TypeId} {pos : String} {after : Array Edge} {g : Option (Nat × Bool)} {x y : Operand}
/-! Guards: they fail at once, under with_reducible, where another operation stands. -/
theorem at_load (h : wpList P ops Q (⟨dst, .load T x, ty, pos, after, g⟩ :: rest) a w) : wpList P ops Q (⟨dst, .load T x, ty, pos, after, g⟩ :: rest) a w := h
theorem at_store (h : wpList P ops Q (⟨dst, .store T x y, ty, pos, after, g⟩ :: rest) a w) : wpList P ops Q (⟨dst, .store T x y, ty, pos, after, g⟩ :: rest) a w := h
theorem wl_new {o : Oper} (hgd : Region.wanted o (yielded ops a.tmps) = true) (z : Array Value) (t : TypeId)
   (hr : ∀ w, (execOp a.eval o).run P w = .ok (.value (.pointer (some ⟨w.heap.size, 0, none⟩))) (w.alloc (.cells z t)))
   (h : ∀ w', Made w w' z → wpList P ops Q rest (a.put o.dst (.pointer (some ⟨w.heap.size, 0, none⟩))) w') : wpList P ops Q (o :: rest) a w :=
 wpList_want hgd fun K hK => by
   unfold Oper.wp
   rw [hr w]
   exact hK _ _ (h _ (made_alloc w z t))
theorem wl_newb {o : Oper} (hgd : Region.wanted o (yielded ops a.tmps) = true) (z : Array Value) (t : TypeId)
   (hr : ∀ w, (execOp a.eval o).run P w = .ok (.value (.pointer (some ⟨w.heap.size, 0, none⟩))) (w.alloc (.cells z t)))
   (h : ∀ b w', MadeAt w w' b z → wpList P ops Q rest (a.put o.dst (.pointer (some ⟨b, 0, none⟩))) w') : wpList P ops Q (o :: rest) a w :=
 wl_new hgd z t hr fun w' hm => h _ w' ⟨rfl, hm⟩
theorem wl_ldv (hgd : Region.wanted (⟨dst, .load T x, ty, pos, after, g⟩ : Oper) (yielded ops a.tmps) = true) (b : Nat) (hx : a.eval x = .pointer (some ⟨b, 0, none⟩)) (c : Array Value) (hr : w.rowD b = c) (n : Nat) (d : TypeDesc)
   (hu : P.underlying T = some d) (hd : d.isRow = true) (hi : (P.info? T).map (·.size) = some n) (hn : 0 < n) (hs : c.size = n)
   (h : wpList P ops Q rest (a.put dst (.agg c)) w) : wpList P ops Q (⟨dst, .load T x, ty, pos, after, g⟩ :: rest) a w := by
 refine wpList_load_any hgd T x rfl b 0 hx n d hu hd hi hn (by rw [hr, hs]; omega) ?_
 rw [hr, show c.extract 0 (0 + n) = c from by subst hs; simp]; exact h
theorem wl_ldp (hgd : Region.wanted (⟨dst, .load T x, ty, pos, after, g⟩ : Oper) (yielded ops a.tmps) = true) (b o : Nat) (hx : a.eval x = .pointer (some ⟨b, o, none⟩)) (c : Array Value) (hr : w.rowD b = c) (n : Nat) (d : TypeDesc)
   (hu : P.underlying T = some d) (hd : d.isRow = true) (hi : (P.info? T).map (·.size) = some n) (hn : 0 < n) (hs : o + n ≤ c.size) (v : Array Value) (hv : c.extract o (o + n) = v)
   (h : wpList P ops Q rest (a.put dst (.agg v)) w) : wpList P ops Q (⟨dst, .load T x, ty, pos, after, g⟩ :: rest) a w := by
 refine wpList_load_any hgd T x rfl b o hx n d hu hd hi hn (by rw [hr]; exact hs) ?_
 rw [hr, hv]; exact h
theorem wl_ldc (hgd : Region.wanted (⟨dst, .load T x, ty, pos, after, g⟩ : Oper) (yielded ops a.tmps) = true) (b o : Nat) (hx : a.eval x = .pointer (some ⟨b, o, none⟩)) (c : Array Value) (hr : w.rowD b = c) (d : TypeDesc)
   (hu : P.underlying T = some d) (hd : d.isRow = false) (v : Value) (hv : c[o]? = some v)
   (h : wpList P ops Q rest (a.put dst v) w) : wpList P ops Q (⟨dst, .load T x, ty, pos, after, g⟩ :: rest) a w :=
 wpList_want hgd fun K hK => by
   have h1 : w.cell? ⟨b, o, none⟩ = some v := by rw [cell_rowD, hr]; exact hv
   have hagg : (isAgg T).run P w = .ok false w := by
     unfold isAgg
     rw [Sem.run_bind, run_underlying hu w]
     cases d <;> simp_all
   have hl : (loadVar T ⟨b, o, none⟩).run P w = .ok v w := by
     simp only [loadVar, Sem.run_bind, hagg, Result.andThen_ok, Bool.false_eq_true, if_false]
     simp [load, Sem.run, h1]
   unfold Oper.wp execOp
   simp only [hx, Instr.loadAt, Instr.sureAddr, Sem.run_bind, Sem.run_pure, Result.andThen_ok, hl]
   exact hK _ _ h
theorem wl_stv (hgd : Region.wanted (⟨dst, .store T x y, ty, pos, after, g⟩ : Oper) (yielded ops a.tmps) = true) (b : Nat) (hx : a.eval x = .pointer (some ⟨b, 0, none⟩)) (c : Array Value) (hy : a.eval y = .agg c) (c0 : Array Value) (hr : w.rowD b = c0) (hs : w.soft b = true) (n : Nat)
   (hi : (P.info? T).map (·.size) = some n) (hc : c.size = n) (h0 : c0.size = n) (h1 : c.all (·.oneCell') = true)
   (h : ∀ w', Wrote w w' b c → wpList P ops Q rest (a.put dst undef) w') : wpList P ops Q (⟨dst, .store T x y, ty, pos, after, g⟩ :: rest) a w := by
 refine wpList_store_agg hgd T x y rfl b 0 c hx hy n hi hc h1 hs (by rw [hr, h0]; omega) ?_
 intro w' hw
 refine h w' ?_
 have e : splice (w.rowD b) 0 c = c := by
   rw [hr]
   apply Array.ext_getElem?
   intro i
   rw [get_splice _ _ _ (by omega), if_neg (by omega)]
   by_cases h2 : i < 0 + c.size
   · rw [if_pos h2]; rfl
   · rw [if_neg h2, Array.getElem?_eq_none (by omega), Array.getElem?_eq_none (by omega)]
 rw [e] at hw; exact hw
theorem wl_stp (hgd : Region.wanted (⟨dst, .store T x y, ty, pos, after, g⟩ : Oper) (yielded ops a.tmps) = true) (b o : Nat) (hx : a.eval x = .pointer (some ⟨b, o, none⟩)) (c : Array Value) (hy : a.eval y = .agg c) (c0 : Array Value) (hr : w.rowD b = c0) (hs : w.soft b = true) (n : Nat)
   (hi : (P.info? T).map (·.size) = some n) (hc : c.size = n) (h0 : o + n ≤ c0.size) (h1 : c.all (·.oneCell') = true) (v : Array Value) (hv : splice c0 o c = v)
   (h : ∀ w', Wrote w w' b v → wpList P ops Q rest (a.put dst undef) w') : wpList P ops Q (⟨dst, .store T x y, ty, pos, after, g⟩ :: rest) a w := by
 refine wpList_store_agg hgd T x y rfl b o c hx hy n hi hc h1 hs (by rw [hr]; exact h0) ?_
 intro w' hw
 rw [hr, hv] at hw
 exact h w' hw
theorem wl_stc (hgd : Region.wanted (⟨dst, .store T x y, ty, pos, after, g⟩ : Oper) (yielded ops a.tmps) = true) (b o : Nat) (hx : a.eval x = .pointer (some ⟨b, o, none⟩)) (v : Value) (hy : a.eval y = v) (c0 : Array Value) (hr : w.rowD b = c0) (hs : w.soft b = true)
   (hi : (P.info? T).map (·.size) = some 1) (h1 : v.oneCell' = true) (h0 : o < c0.size)
   (h : ∀ w', Wrote w w' b (c0.setIfInBounds o v) → wpList P ops Q rest (a.put dst undef) w') : wpList P ops Q (⟨dst, .store T x y, ty, pos, after, g⟩ :: rest) a w := by
 refine wpList_store_cell hgd T x y rfl b o v hx hy hi h1 hs (by rw [hr]; exact h0) ?_
 intro w' hw
 rw [hr] at hw
 exact h w' hw
theorem read_row (w : World) (b : Nat) (T : TypeId) (c : Array Value) (hr : w.rowD b = c) (n : Nat) (d : TypeDesc) (hu : P.underlying T = some d) (hd : d.isRow = true) (hi : (P.info? T).map (·.size) = some n) (hn : 0 < n) (hs : c.size = n) : (loadVar T ⟨b, 0, none⟩).run P w = .ok (.agg c) w := by
 have := run_loadVar_any (P := P) w b 0 T n d hu hd hi hn (by rw [hr, hs]; omega)
 rw [hr, show c.extract 0 (0 + n) = c from by subst hs; simp] at this; exact this
end
theorem Vars.drop {w0 w : World} {x : Nat × Array Value} {L : LV} (h : Vars w0 w (x :: L)) : Vars w0 w L :=
 ⟨h.below, fun p hp => h.rows p (List.mem_cons_of_mem _ hp), by have := h.apart; rw [List.map_cons, List.nodup_cons] at this; exact this.2⟩
theorem Vars.keep {w0 w : World} {L L' : LV} (h : Vars w0 w L) (hs : L'.Sublist L) : Vars w0 w L' :=
 ⟨h.below, fun p hp => h.rows p (hs.subset hp), (hs.map _).nodup h.apart⟩
end Go
end
