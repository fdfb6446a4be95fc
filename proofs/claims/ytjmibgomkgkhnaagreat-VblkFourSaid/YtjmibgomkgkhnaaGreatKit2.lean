/-
 Laws for a walk's arms, whatever the type: a variable that lies in a block of the call's own (Vars) is laid, read, written, whole or in part. No program in sight.
-/
import Derived.Test.YtjmibgomkgkhnaaGreatKit
set_option linter.unusedVariables false
set_option linter.unusedSimpArgs false
namespace Go
open Go.RowKit
structure MadeAt (w w' : World) (b : Nat) (c : Array Value) : Prop where
 at' : b = w.heap.size
 made : Made w w' c
theorem Vars.madeAt {w0 w w' : World} {L : List (Nat × Array Value)} {b : Nat} {c : Array Value} (h : Vars w0 w L) (hm : MadeAt w w' b c) : Vars w0 w' ((b, c) :: L) := by
 obtain ⟨rfl, hm⟩ := hm
 exact h.made hm
section
variable {P : Program} {ops : Array Oper} {rest : List Oper} {a : Act} {w : World} {Q : Exit → Act → World → Prop}
variable {dst : Option Tmp} {ty T : TypeId} {pos : String} {after : Array Edge} {g : Option (Nat × Bool)} {x y : Operand}
/-! Guards: they fail at once, under with_reducible, where another operation stands. -/
theorem at_load (h : wpList P ops Q (⟨dst, .load T x, ty, pos, after, g⟩ :: rest) a w) : wpList P ops Q (⟨dst, .load T x, ty, pos, after, g⟩ :: rest) a w := h
theorem at_store (h : wpList P ops Q (⟨dst, .store T x y, ty, pos, after, g⟩ :: rest) a w) : wpList P ops Q (⟨dst, .store T x y, ty, pos, after, g⟩ :: rest) a w := h
theorem at_alloc (h : wpList P ops Q (⟨dst, .alloc T, ty, pos, after, g⟩ :: rest) a w) : wpList P ops Q (⟨dst, .alloc T, ty, pos, after, g⟩ :: rest) a w := h
theorem at_box (h : wpList P ops Q (⟨dst, .box T x, ty, pos, after, g⟩ :: rest) a w) : wpList P ops Q (⟨dst, .box T x, ty, pos, after, g⟩ :: rest) a w := h
theorem wl_new {o : Oper} (hgd : Region.wanted o (yielded ops a.tmps) = true) (z : Array Value) (t : TypeId)
   (hr : ∀ w, (execOp a.eval o).run P w = .ok (.value (.pointer (some ⟨w.heap.size, 0, none⟩))) (w.alloc (.cells z t)))
   (h : ∀ w', Made w w' z → wpList P ops Q rest (a.put o.dst (.pointer (some ⟨w.heap.size, 0, none⟩))) w') : wpList P ops Q (o :: rest) a w :=
 wpList_want hgd fun K hK => by
   unfold Oper.wp
   rw [hr w]
   exact hK _ _ (h _ (made_alloc w z t))
theorem wl_newb {o : Oper} (hgd : Region.wanted o (yielded ops a.tmps) = true) (z : Array Value) (t : TypeId)
   (hr : ∀ w, (execOp a.eval o).run P w = .ok (.value (.pointer (some ⟨w.heap.size, 0, none⟩))) (w.alloc (.cells z t)))
   (h : ∀ b w', MadeAt w w' b z → wpList P ops Q rest (a.put o.dst (.pointer (some ⟨b, 0, none⟩))) w') : wpList P ops Q (o :: rest) a w :=
 wl_new hgd z t hr fun w' hm => h _ w' ⟨rfl, hm⟩
theorem wl_ldv (hgd : Region.wanted (⟨dst, .load T x, ty, pos, after, g⟩ : Oper) (yielded ops a.tmps) = true) (b : Nat) (hx : a.eval x = .pointer (some ⟨b, 0, none⟩)) (c : Array Value) (hr : w.rowD b = c) (n : Nat) (d : TypeDesc)
   (hu : P.underlying T = some d) (hd : d.isRow = true) (hi : (P.info? T).map (·.size) = some n) (hn : 0 < n) (hs : c.size = n)
   (h : wpList P ops Q rest (a.put dst (.agg c)) w) : wpList P ops Q (⟨dst, .load T x, ty, pos, after, g⟩ :: rest) a w := by
 refine wpList_load_any hgd T x rfl b 0 hx n d hu hd hi hn (by rw [hr, hs]; omega) ?_
 rw [hr, show c.extract 0 (0 + n) = c from by subst hs; simp]; exact h
theorem wl_ldp (hgd : Region.wanted (⟨dst, .load T x, ty, pos, after, g⟩ : Oper) (yielded ops a.tmps) = true) (b o : Nat) (hx : a.eval x = .pointer (some ⟨b, o, none⟩)) (c : Array Value) (hr : w.rowD b = c) (n : Nat) (d : TypeDesc)
   (hu : P.underlying T = some d) (hd : d.isRow = true) (hi : (P.info? T).map (·.size) = some n) (hn : 0 < n) (hs : o + n ≤ c.size) (v : Array Value) (hv : c.extract o (o + n) = v)
   (h : wpList P ops Q rest (a.put dst (.agg v)) w) : wpList P ops Q (⟨dst, .load T x, ty, pos, after, g⟩ :: rest) a w := by
 refine wpList_load_any hgd T x rfl b o hx n d hu hd hi hn (by rw [hr]; exact hs) ?_
 rw [hr, hv]; exact h
theorem wl_ldc (hgd : Region.wanted (⟨dst, .load T x, ty, pos, after, g⟩ : Oper) (yielded ops a.tmps) = true) (b o : Nat) (hx : a.eval x = .pointer (some ⟨b, o, none⟩)) (c : Array Value) (hr : w.rowD b = c) (d : TypeDesc)
   (hu : P.underlying T = some d) (hd : d.isRow = false) (v : Value) (hv : c[o]? = some v)
   (h : wpList P ops Q rest (a.put dst v) w) : wpList P ops Q (⟨dst, .load T x, ty, pos, after, g⟩ :: rest) a w :=
 wpList_want hgd fun K hK => by
   have h1 : w.cell? ⟨b, o, none⟩ = some v := by rw [cell_rowD, hr]; exact hv
   have hagg : (isAgg T).run P w = .ok false w := by
     unfold isAgg
     rw [Sem.run_bind, run_underlying hu w]
     cases d <;> simp_all
   have hl : (loadVar T ⟨b, o, none⟩).run P w = .ok v w := by
     simp only [loadVar, Sem.run_bind, hagg, Result.andThen_ok, Bool.false_eq_true, if_false]
     simp [load, Sem.run, h1]
   unfold Oper.wp execOp
   simp only [hx, Instr.loadAt, Instr.sureAddr, Sem.run_bind, Sem.run_pure, Result.andThen_ok, hl]
   exact hK _ _ h
theorem wl_stv (hgd : Region.wanted (⟨dst, .store T x y, ty, pos, after, g⟩ : Oper) (yielded ops a.tmps) = true) (b : Nat) (hx : a.eval x = .pointer (some ⟨b, 0, none⟩)) (c : Array Value) (hy : a.eval y = .agg c) (c0 : Array Value) (hr : w.rowD b = c0) (hs : w.soft b = true) (n : Nat)
   (hi : (P.info? T).map (·.size) = some n) (hc : c.size = n) (h0 : c0.size = n) (h1 : c.all (·.oneCell') = true)
   (h : ∀ w', Wrote w w' b c → wpList P ops Q rest (a.put dst undef) w') : wpList P ops Q (⟨dst, .store T x y, ty, pos, after, g⟩ :: rest) a w := by
 refine wpList_store_agg hgd T x y rfl b 0 c hx hy n hi hc h1 hs (by rw [hr, h0]; omega) ?_
 intro w' hw
 refine h w' ?_
 have e : splice (w.rowD b) 0 c = c := by
   rw [hr]
   apply Array.ext_getElem?
   intro i
   rw [get_splice _ _ _ (by omega), if_neg (by omega)]
   by_cases h2 : i < 0 + c.size
   · rw [if_pos h2]; rfl
   · rw [if_neg h2, Array.getElem?_eq_none (by omega), Array.getElem?_eq_none (by omega)]
 rw [e] at hw; exact hw
theorem wl_stp (hgd : Region.wanted (⟨dst, .store T x y, ty, pos, after, g⟩ : Oper) (yielded ops a.tmps) = true) (b o : Nat) (hx : a.eval x = .pointer (some ⟨b, o, none⟩)) (c : Array Value) (hy : a.eval y = .agg c) (c0 : Array Value) (hr : w.rowD b = c0) (hs : w.soft b = true) (n : Nat)
   (hi : (P.info? T).map (·.size) = some n) (hc : c.size = n) (h0 : o + n ≤ c0.size) (h1 : c.all (·.oneCell') = true) (v : Array Value) (hv : splice c0 o c = v)
   (h : ∀ w', Wrote w w' b v → wpList P ops Q rest (a.put dst undef) w') : wpList P ops Q (⟨dst, .store T x y, ty, pos, after, g⟩ :: rest) a w := by
 refine wpList_store_agg hgd T x y rfl b o c hx hy n hi hc h1 hs (by rw [hr]; exact h0) ?_
 intro w' hw
 rw [hr, hv] at hw
 exact h w' hw
theorem wl_stc (hgd : Region.wanted (⟨dst, .store T x y, ty, pos, after, g⟩ : Oper) (yielded ops a.tmps) = true) (b o : Nat) (hx : a.eval x = .pointer (some ⟨b, o, none⟩)) (v : Value) (hy : a.eval y = v) (c0 : Array Value) (hr : w.rowD b = c0) (hs : w.soft b = true)
   (hi : (P.info? T).map (·.size) = some 1) (h1 : v.oneCell' = true) (h0 : o < c0.size)
   (h : ∀ w', Wrote w w' b (c0.setIfInBounds o v) → wpList P ops Q rest (a.put dst undef) w') : wpList P ops Q (⟨dst, .store T x y, ty, pos, after, g⟩ :: rest) a w := by
 refine wpList_store_cell hgd T x y rfl b o v hx hy hi h1 hs (by rw [hr]; exact h0) ?_
 intro w' hw
 rw [hr] at hw
 exact h w' hw
theorem read_row (w : World) (b : Nat) (T : TypeId) (c : Array Value) (hr : w.rowD b = c) (n : Nat) (d : TypeDesc) (hu : P.underlying T = some d) (hd : d.isRow = true) (hi : (P.info? T).map (·.size) = some n) (hn : 0 < n) (hs : c.size = n) : (loadVar T ⟨b, 0, none⟩).run P w = .ok (.agg c) w := by
 have := run_loadVar_any (P := P) w b 0 T n d hu hd hi hn (by rw [hr, hs]; omega)
 rw [hr, show c.extract 0 (0 + n) = c from by subst hs; simp] at this; exact this
end
theorem Vars.drop {w0 w : World} {x : Nat × Array Value} {L : List (Nat × Array Value)} (h : Vars w0 w (x :: L)) : Vars w0 w L :=
 ⟨h.below, fun p hp => h.rows p (List.mem_cons_of_mem _ hp), by have := h.apart; rw [List.map_cons, List.nodup_cons] at this; exact this.2⟩
theorem Vars.keep {w0 w : World} {L L' : List (Nat × Array Value)} (h : Vars w0 w L) (hs : L'.Sublist L) : Vars w0 w L' :=
 ⟨h.below, fun p hp => h.rows p (hs.subset hp), (hs.map _).nodup h.apart⟩
end Go
