/-
  The laws for a walk's arms, inside a fence: variables of the call's own, slices that are read; what a round over a function keeps. No program in sight.
-/
import Derived.Test.YtfblognifnnadaaOwl
import Derived.RangeFuncNested
import Derived.RangeFuncBound
import Derived.RangeFuncCalls
import Derived.RangeFuncLeaves
import Derived.Shelf.Abstract
import Derived.Shelf.RegionOpen
import Derived.WalkKit
import Derived.OwnWalkIn
import Derived.TacticsInMore
import Derived.LoopNIn
import Derived.LoopIn
set_option linter.unusedVariables false
set_option linter.unusedSimpArgs false
namespace Go
open Go.RowKit
section
variable {F : Fence} {n : Nat} {P : Program} {ops : Array Oper} {rest : List Oper} {a : Act} {w w' : World} {Q : Exit → Act → World → Prop} {o : Oper}
variable {dst : Option Tmp} {ty T t e : TypeId} {pos : String} {after : Array Edge} {g : Option (Nat × Bool)} {x y : Operand}
theorem wi_value (hF : ∀ f, F.fn f) (hnd : ∀ c, o.op ≠ .defer c) (hgd : Region.wanted o (yielded ops a.tmps) = true) {v : Value} (hr : (execOp a.eval o).run P w = .ok (.value v) w') (h : wpListIn F n P ops Q rest (a.put o.dst v) w') : wpListIn F n P ops Q (o :: rest) a w :=
  wpListIn_step fun K hK => by
    rw [if_pos hgd]
    exact ⟨fun f _ => hF f, by rw [Oper.semAt_plain _ _ _ hnd, hr, Oper.uponIn_value]; exact hK _ _ h⟩
theorem wi_skip (hF : ∀ f, F.fn f) (hnd : ∀ c, o.op ≠ .defer c) (hgd : Region.wanted o (yielded ops a.tmps) = true) (hr : (execOp a.eval o).run P w = .ok .skip w') (h : wpListIn F n P ops Q rest (a.put o.dst undef) w') : wpListIn F n P ops Q (o :: rest) a w :=
  wpListIn_step fun K hK => by
    rw [if_pos hgd]
    exact ⟨fun f _ => hF f, by rw [Oper.semAt_plain _ _ _ hnd, hr, Oper.uponIn_skip]; exact hK _ _ h⟩
theorem ati_load (h : wpListIn F n P ops Q (⟨dst, .load T x, ty, pos, after, g⟩ :: rest) a w) : wpListIn F n P ops Q (⟨dst, .load T x, ty, pos, after, g⟩ :: rest) a w := h
theorem ati_store (h : wpListIn F n P ops Q (⟨dst, .store T x y, ty, pos, after, g⟩ :: rest) a w) : wpListIn F n P ops Q (⟨dst, .store T x y, ty, pos, after, g⟩ :: rest) a w := h
theorem ati_alloc (h : wpListIn F n P ops Q (⟨dst, .alloc T, ty, pos, after, g⟩ :: rest) a w) : wpListIn F n P ops Q (⟨dst, .alloc T, ty, pos, after, g⟩ :: rest) a w := h
theorem ati_box (h : wpListIn F n P ops Q (⟨dst, .box T x, ty, pos, after, g⟩ :: rest) a w) : wpListIn F n P ops Q (⟨dst, .box T x, ty, pos, after, g⟩ :: rest) a w := h
theorem ati_append (h : wpListIn F n P ops Q (⟨dst, .call { callee := .builtin .append, args := #[x, y], argTypes := #[t, t] }, ty, pos, after, g⟩ :: rest) a w) : wpListIn F n P ops Q (⟨dst, .call { callee := .builtin .append, args := #[x, y], argTypes := #[t, t] }, ty, pos, after, g⟩ :: rest) a w := h
theorem ati_bslice {m : Nat} {ps : Array (Nat × Operand)} (h : wpListIn F n P ops Q (⟨dst, .buildSlice T m ps, ty, pos, after, g⟩ :: rest) a w) : wpListIn F n P ops Q (⟨dst, .buildSlice T m ps, ty, pos, after, g⟩ :: rest) a w := h
theorem run_loadAt {v : Value} {ad : Addr} (hx : a.eval x = .pointer (some ad)) (hl : (loadVar T ad).run P w = .ok v w) : (execOp a.eval (⟨dst, .load T x, ty, pos, after, g⟩ : Oper)).run P w = .ok (.value v) w := by
  unfold execOp
  simp only [hx, Instr.loadAt, Instr.sureAddr, Sem.run_bind, Sem.run_pure, Result.andThen_ok, hl]
theorem run_loadCell {b o : Nat} {c : Array Value} {d : TypeDesc} {v : Value} (hu : P.underlying T = some d) (hd : d.isRow = false) (hr : w.rowD b = c) (hv : c[o]? = some v) : (loadVar T ⟨b, o, none⟩).run P w = .ok v w := by
  have h1 : w.cell? ⟨b, o, none⟩ = some v := by rw [cell_rowD, hr]; exact hv
  have hagg : (isAgg T).run P w = .ok false w := by
    unfold isAgg
    rw [Sem.run_bind, run_underlying hu w]
    cases d <;> simp_all
  simp only [loadVar, Sem.run_bind, hagg, Result.andThen_ok, Bool.false_eq_true, if_false]
  simp [load, Sem.run, h1]
/-- A block laid. -/
theorem wi_newb (hF : ∀ f, F.fn f) (hnd : ∀ c, o.op ≠ .defer c) (hgd : Region.wanted o (yielded ops a.tmps) = true) (z : Array Value) (t : TypeId)
    (hr : ∀ w, (execOp a.eval o).run P w = .ok (.value (.pointer (some ⟨w.heap.size, 0, none⟩))) (w.alloc (.cells z t)))
    (h : ∀ b w', MadeAt w w' b z → wpListIn F n P ops Q rest (a.put o.dst (.pointer (some ⟨b, 0, none⟩))) w') : wpListIn F n P ops Q (o :: rest) a w :=
  wi_value hF hnd hgd (hr w) (h _ _ ⟨rfl, made_alloc w z t⟩)
/-- A slice literal. -/
theorem wi_mkb (hF : ∀ f, F.fn f) (hnd : ∀ c, o.op ≠ .defer c) (hgd : Region.wanted o (yielded ops a.tmps) = true) (z : Array Value) (t : TypeId) (m cap : Nat)
    (hr : ∀ w, (execOp a.eval o).run P w = .ok (.value (.slice (some ⟨w.heap.size, 0, none⟩) m cap)) (w.alloc (.cells z t)))
    (h : ∀ b w', MadeAt w w' b z → wpListIn F n P ops Q rest (a.put o.dst (.slice (some ⟨b, 0, none⟩) m cap)) w') : wpListIn F n P ops Q (o :: rest) a w :=
  wi_value hF hnd hgd (hr w) (h _ _ ⟨rfl, made_alloc w z t⟩)
/-- A whole variable read. -/
theorem wi_ldv (hF : ∀ f, F.fn f) (hgd : Region.wanted (⟨dst, .load T x, ty, pos, after, g⟩ : Oper) (yielded ops a.tmps) = true) (b : Nat) (hx : a.eval x = .pointer (some ⟨b, 0, none⟩)) (c : Array Value) (hr : w.rowD b = c) (m : Nat) (d : TypeDesc)
    (hu : P.underlying T = some d) (hd : d.isRow = true) (hi : (P.info? T).map (·.size) = some m) (hn : 0 < m) (hs : c.size = m)
    (h : wpListIn F n P ops Q rest (a.put dst (.agg c)) w) : wpListIn F n P ops Q (⟨dst, .load T x, ty, pos, after, g⟩ :: rest) a w :=
  wi_value hF (fun _ h => by cases h) hgd (run_loadAt hx (read_row w b T c hr m d hu hd hi hn hs)) h
/-- One cell read. -/
theorem wi_ldc (hF : ∀ f, F.fn f) (hgd : Region.wanted (⟨dst, .load T x, ty, pos, after, g⟩ : Oper) (yielded ops a.tmps) = true) (b o : Nat) (hx : a.eval x = .pointer (some ⟨b, o, none⟩)) (c : Array Value) (hr : w.rowD b = c) (d : TypeDesc)
    (hu : P.underlying T = some d) (hd : d.isRow = false) (v : Value) (hv : c[o]? = some v)
    (h : wpListIn F n P ops Q rest (a.put dst v) w) : wpListIn F n P ops Q (⟨dst, .load T x, ty, pos, after, g⟩ :: rest) a w := by
  have h1 : w.cell? ⟨b, o, none⟩ = some v := by rw [cell_rowD, hr]; exact hv
  have hagg : (isAgg T).run P w = .ok false w := by
    unfold isAgg
    rw [Sem.run_bind, run_underlying hu w]
    cases d <;> simp_all
  have hl : (loadVar T ⟨b, o, none⟩).run P w = .ok v w := by
    simp only [loadVar, Sem.run_bind, hagg, Result.andThen_ok, Bool.false_eq_true, if_false]
    simp [load, Sem.run, h1]
  exact wi_value hF (fun _ h => by cases h) hgd (run_loadAt hx hl) h
/-- An element of several cells read. -/
theorem wi_rdv (hF : ∀ f, F.fn f) (hgd : Region.wanted (⟨dst, .load T x, ty, pos, after, g⟩ : Oper) (yielded ops a.tmps) = true) {kk b o l cap : Nat} {c : List Value} (hr : Rd w kk (.slice (some ⟨b, o, none⟩) l cap) c) (i : Nat) (hx : a.eval x = .pointer (some ⟨b, o + i, none⟩)) (m : Nat) (d : TypeDesc)
    (hu : P.underlying T = some d) (hd : d.isRow = true) (hi : (P.info? T).map (·.size) = some m) (h0 : 0 < m) (v : Array Value) (hv : (c.drop i).take m = v.toList) (hm : v.size = m) (h : wpListIn F n P ops Q rest (a.put dst (.agg v)) w) : wpListIn F n P ops Q (⟨dst, .load T x, ty, pos, after, g⟩ :: rest) a w := by
  obtain ⟨h1, h2⟩ := rd_cells hr i m v hv hm h0
  have hl := run_loadVar_any (P := P) w b (o + i) T m d hu hd hi h0 h1
  rw [h2] at hl
  exact wi_value hF (fun _ h => by cases h) hgd (run_loadAt hx hl) h
/-- A whole variable written. -/
theorem wi_stv (hF : ∀ f, F.fn f) (hgd : Region.wanted (⟨dst, .store T x y, ty, pos, after, g⟩ : Oper) (yielded ops a.tmps) = true) (b : Nat) (hx : a.eval x = .pointer (some ⟨b, 0, none⟩)) (c : Array Value) (hy : a.eval y = .agg c) (c0 : Array Value) (hr : w.rowD b = c0) (hs : w.soft b = true) (m : Nat)
    (hi : (P.info? T).map (·.size) = some m) (hc : c.size = m) (h0 : c0.size = m) (h1 : c.all (·.oneCell') = true)
    (h : ∀ w', Wrote w w' b c → wpListIn F n P ops Q rest (a.put dst undef) w') : wpListIn F n P ops Q (⟨dst, .store T x y, ty, pos, after, g⟩ :: rest) a w := by
  obtain ⟨w', r1, r2⟩ := Any.run_stv (P := P) (a := a) (o := ⟨dst, .store T x y, ty, pos, after, g⟩) w T x y rfl b c hx hy m hi hc h1 hs (by rw [hr]; exact h0)
  exact wi_skip hF (fun _ h => by cases h) hgd r1 (h w' r2)
/-- One cell written. -/
theorem wi_stc (hF : ∀ f, F.fn f) (hgd : Region.wanted (⟨dst, .store T x y, ty, pos, after, g⟩ : Oper) (yielded ops a.tmps) = true) (b o : Nat) (hx : a.eval x = .pointer (some ⟨b, o, none⟩)) (v : Value) (hy : a.eval y = v) (c0 : Array Value) (hr : w.rowD b = c0) (hs : w.soft b = true)
    (hi : (P.info? T).map (·.size) = some 1) (h1 : v.oneCell' = true) (h0 : o < c0.size)
    (h : ∀ w', Wrote w w' b (c0.setIfInBounds o v) → wpListIn F n P ops Q rest (a.put dst undef) w') : wpListIn F n P ops Q (⟨dst, .store T x y, ty, pos, after, g⟩ :: rest) a w := by
  obtain ⟨w', r1, r2⟩ := Any.run_stc (P := P) (a := a) (o := ⟨dst, .store T x y, ty, pos, after, g⟩) w T x y rfl b o v hx hy hi h1 hs (by rw [hr]; exact h0)
  rw [hr] at r2
  exact wi_skip hF (fun _ h => by cases h) hgd r1 (h w' r2)
/-- append to a slice of the call's own. -/
theorem wi_appO (hF : ∀ f, F.fn f) {w0 : World} {A B O : List (Nat × Array Value)} {R : List (Nat × Value × List Value)} {k : Nat} (hgd : Region.wanted (⟨dst, .call { callee := .builtin .append, args := #[x, y], argTypes := #[t, t] }, ty, pos, after, g⟩ : Oper) (yielded ops a.tmps) = true) {v : Value} {c : List Value} (hx : a.eval x = v) (hO : OwnL k v c O) (hv : Mem w0 w (A ++ O ++ B) R) (z : Value) (bytes : Nat) (ht : P.underlying t = some (.slice e))
    (hi : (P.info? e).map (fun i => (i.zero, i.size, i.bytes)) = some (some z, k, bytes)) (hzs : z.cells.size = k) (hk : 0 < k) {u : Value} (hy : a.eval y = u) {news : List Value} (hu : Rd w k u news) (h1 : ∀ x ∈ news, x.oneCell' = true)
    (h63 : (c.length + news.length) / k ≤ maxLen) (hbytes : (c.length + news.length) / k * bytes ≤ 140737488355328)
    (hn : ∀ v' w' O', OwnL k v' (c ++ news) O' → Mem w0 w' (A ++ O' ++ B) R → (w.heap.size ≤ w'.heap.size ∧ ∀ j, j < w.heap.size → (∀ p ∈ O, p.1 ≠ j) → w'.heap[j]? = w.heap[j]?) → wpListIn F n P ops Q rest (a.put dst v') w') : wpListIn F n P ops Q (⟨dst, .call { callee := .builtin .append, args := #[x, y], argTypes := #[t, t] }, ty, pos, after, g⟩ :: rest) a w := by
  obtain ⟨i, hi1, hz, hsz, hb⟩ := info_parts hi
  have hrun : ∀ {v' : Value} {w' : World}, (Builtin.append_ #[t, t] ty #[v, u]).run P w = .ok v' w' → (execOp a.eval (⟨dst, .call { callee := .builtin .append, args := #[x, y], argTypes := #[t, t] }, ty, pos, after, g⟩ : Oper)).run P w = .ok (.value v') w' := fun hr => by
    unfold execOp
    simp only [resolve, invoke, builtin, Sem.run_bind, Sem.run_pure, Result.andThen_ok, List.map_toArray, List.map_cons, List.map_nil, hx, hy, hr]
  rcases hO with ⟨rfl, rfl, rfl⟩ | ⟨x0, hrow, rfl⟩
  · rw [List.append_nil] at hv
    obtain ⟨v', w', r1, r2, r3⟩ := run_app_nil (P := P) (w := w) t ty i z bytes ht hi1 hz hsz hb hzs hk hu h1 (by simpa using h63) (by simpa using hbytes)
    refine wi_value hF (fun _ h => by cases h) hgd (hrun r1) ?_
    rcases r3 with ⟨e1, h0⟩ | ⟨x', g1, g2, g3, g4⟩
    · refine hn v' w' [] ?_ (by rw [List.append_nil]; exact hv.new r2) ⟨r2.size, fun j hj _ => r2.block j hj⟩
      rw [e1, h0]; exact OwnL.nil k
    · exact hn v' w' [x'] (by rw [List.nil_append]; exact OwnL.row g1) ((hv.lay' g2 r2 g3 g4).perm (perm_mid A B x').symm) ⟨r2.size, fun j hj _ => r2.block j hj⟩
  · have hv2 := hv.perm (perm_mid A B x0)
    obtain ⟨q1, q2, q3⟩ := hv2.vars.rows x0 (List.mem_cons_self ..)
    obtain ⟨v', w', x', r1, r2, r3⟩ := run_app_row (P := P) (w := w) t ty i z bytes ht hi1 hz hsz hb hzs hk hrow q1 q2 hu h1 h63 hbytes
    refine wi_value hF (fun _ h => by cases h) hgd (hrun r1) ?_
    rcases r3 with ⟨e1, hwr⟩ | ⟨e1, hnw, hr, hs⟩
    · refine hn v' w' [x'] (OwnL.row r2) (Mem.perm ?_ (perm_mid A B x').symm) ⟨by rw [hwr.size]; exact Nat.le_refl _, fun j hj hne => hwr.other j (fun e => hne x0 (List.mem_cons_self ..) e.symm)⟩
      have := hv2.set 0 rfl hwr
      have e2 : x' = (x0.1, x'.2) := by rw [← e1]
      rw [e2]; exact this
    · refine hn v' w' [x'] (OwnL.row r2) (Mem.perm ?_ (perm_mid A B x').symm) ⟨hnw.size, fun j hj _ => hnw.block j hj⟩
      have hm : MadeAt w w' w.heap.size x'.2 := ⟨rfl, ⟨hnw, by rw [← e1]; exact hr, by rw [← e1]; exact hs⟩⟩
      have := (hv2.madeAt hm).keep (L' := (w.heap.size, x'.2) :: (A ++ B)) ((List.sublist_cons_self x0 (A ++ B)).cons_cons _)
      have e2 : x' = (w.heap.size, x'.2) := by rw [← e1]
      rw [e2]; exact this
end
/-- A read kept where what lay below n₀ is kept. -/
theorem Rd.belowN {n₀ : Nat} {w w' : World} {k : Nat} {v : Value} {c : List Value} (h : Rd w k v c) (hb : Below n₀ w w') (hlt : c ≠ [] → ∀ b o n cap, v = .slice (Option.some ⟨b, o, none⟩) n cap → b < n₀) : Rd w' k v c := by
  obtain ⟨ao, n, cap, rfl, h1, h2, h3, h4, h5⟩ := h
  refine ⟨ao, n, cap, rfl, h1, h2, h3, h4, fun i hi => ?_⟩
  obtain ⟨b, o, e, hb', hc⟩ := h5 i hi
  have hl : b < n₀ := hlt (fun e => by rw [e] at hi; simp at hi) b o n cap (by rw [e])
  have := hb.size
  exact ⟨b, o, e, by omega, by rw [hb.cell (p := ⟨b, o + i, none⟩) hl]; exact hc⟩
/-- A row kept by a turn of what is no cells. -/
theorem rowD_turn {w w' : World} {row : Option Nat} {b : Nat} {c : Array Value} (h : w.rowD b = c) (hc : 0 < c.size) (hg : w.grownBy w' row) (hr : ∀ r, row = some r → ∃ o : Obj, w.heap[r]? = some o ∧ o.isCells = false) : w'.rowD b = c := by
  obtain ⟨t, fr, ht⟩ := rowD_block (w := w) (b := b) (by rw [h]; exact hc)
  rw [rowD_congr (hg.block b (Array.getElem?_eq_some_iff.1 ht).1 (fun e => by
    obtain ⟨o, ho, hno⟩ := hr b e.symm
    rw [ht] at ho; cases ho; cases hno))]
  exact h
theorem Rd.turn {w w' : World} {row : Option Nat} {k : Nat} {v : Value} {c : List Value} (h : Rd w k v c) (hg : w.grownBy w' row) (hr : ∀ r, row = Option.some r → ∃ o : Obj, w.heap[r]? = Option.some o ∧ o.isCells = false) : Rd w' k v c := by
  obtain ⟨ao, n, cap, rfl, h1, h2, h3, h4, h5⟩ := h
  refine ⟨ao, n, cap, rfl, h1, h2, h3, h4, fun i hi => ?_⟩
  obtain ⟨b, o, e, hb', hc⟩ := h5 i hi
  have := hg.size
  refine ⟨b, o, e, by omega, ?_⟩
  rw [cell_rowD] at hc ⊢
  have hsz : 0 < (w.rowD b).size := by
    rw [List.getElem?_eq_getElem hi] at hc
    have := (Array.getElem?_eq_some_iff.1 hc).1
    omega
  rw [rowD_turn rfl hsz hg hr]; exact hc
theorem Vars.turn {w0 w w' : World} {L : List (Nat × Array Value)} {row : Option Nat} (h : Vars w0 w L) (hg : w.grownBy w' row) (hr : ∀ r, row = some r → w0.heap.size ≤ r ∧ ∃ o : Obj, w.heap[r]? = some o ∧ o.isCells = false) : Vars w0 w' L := by
  refine ⟨h.below.grown hg h.below.size (fun k e => (hr k e).1), fun p hp => ?_, h.apart⟩
  obtain ⟨h1, h2, h3⟩ := h.rows p hp
  obtain ⟨tt, ht⟩ := soft_heap h2
  have hb : w'.heap[p.1]? = w.heap[p.1]? := hg.block p.1 (soft_lt h2) (fun e => by
    obtain ⟨_, o, ho, hc⟩ := hr p.1 e.symm
    rw [ht] at ho; cases ho; cases hc)
  exact ⟨(rowD_congr hb).trans h1, (soft_congr hb).trans h2, h3⟩
theorem Mem.turn {w0 w w' : World} {L : List (Nat × Array Value)} {R : List (Nat × Value × List Value)} {row : Option Nat} (h : Mem w0 w L R) (hg : w.grownBy w' row) (hr : ∀ r, row = some r → w0.heap.size ≤ r ∧ ∃ o : Obj, w.heap[r]? = some o ∧ o.isCells = false) : Mem w0 w' L R :=
  ⟨h.vars.turn hg hr, fun x hx => ⟨(h.rds x hx).1.turn hg (fun r e => (hr r e).2), (h.rds x hx).2⟩⟩
theorem below_between {B : Nat} {a w w' : World} (h : Below B a w) (h' : Below B a w') (hs : w.heap.size ≤ w'.heap.size) : Below B w w' :=
  ⟨h'.os.trans h.os.symm, h'.tape.trans h.tape.symm, h'.output.trans h.output.symm, hs, fun k hk => (h'.block k hk).trans (h.block k hk).symm⟩
theorem New.keeps {w w' : World} (h : New w w') (B : Nat) : KeepsFrom B w w' := ⟨h.size, fun k o _ hk _ => (h.block k (Array.getElem?_eq_some_iff.1 hk).1).trans hk⟩
theorem Wrote.keeps {w w' : World} {b : Nat} {c : Array Value} (h : Wrote w w' b c) (hs : w.soft b = true) (B : Nat) : KeepsFrom B w w' := by
  refine ⟨by rw [h.size]; exact Nat.le_refl _, fun k o _ hk ho => ?_⟩
  refine (h.other k (fun e => ?_)).trans hk
  subst e
  obtain ⟨t, ht⟩ := soft_heap hs
  rw [ht] at hk; cases hk; cases ho
theorem keeps_app {w0 w w' : World} {A O B : List (Nat × Array Value)} {R : List (Nat × Value × List Value)} (h : Mem w0 w (A ++ O ++ B) R) (hf : w.heap.size ≤ w'.heap.size ∧ ∀ j, j < w.heap.size → (∀ p ∈ O, p.1 ≠ j) → w'.heap[j]? = w.heap[j]?) (n : Nat) : KeepsFrom n w w' := by
  refine ⟨hf.1, fun k o _ hk ho => ?_⟩
  refine (hf.2 k (Array.getElem?_eq_some_iff.1 hk).1 (fun p hp e => ?_)).trans hk
  have hs := (h.vars.rows p (by simp [hp])).2.1
  obtain ⟨t, ht⟩ := soft_heap hs
  rw [e, hk] at ht; cases ht; cases ho
/-- What reads its cells in memory that is new since w. -/
def FRb (w : World) (x : Nat × Value × List Value) : Prop := x.2.2 ≠ [] → ∃ b o n cap, x.2.1 = .slice (some ⟨b, o, none⟩) n cap ∧ w.heap.size ≤ b
def AllF (w : World) (R : List (Nat × Value × List Value)) : Prop := ∀ x ∈ R, FRb w x
theorem Mem.lift {w0 w w' : World} {L : List (Nat × Array Value)} {R : List (Nat × Value × List Value)} (h : Mem w0 w L R) (hn : New w w') : ∀ {R1 : List (Nat × Value × List Value)}, (∀ x ∈ R1, Rd w' x.1 x.2.1 x.2.2 ∧ FRb w x) → Mem w0 w' L (R1 ++ R)
  | [], _ => h.new hn
  | x :: R1, hf => (Mem.lift h hn fun y hy => hf y (List.mem_cons_of_mem _ hy)).add (hf x (List.mem_cons_self ..)).1 (fun hc b o n cap e p hp => by
      obtain ⟨b', o', n', cap', e', hb⟩ := (hf x (List.mem_cons_self ..)).2 hc
      rw [e] at e'; cases e'
      have := soft_lt (h.vars.rows p hp).2.1
      omega)
theorem OwnL.fr {w0 w : World} {A B O : List (Nat × Array Value)} {R : List (Nat × Value × List Value)} {k : Nat} {v : Value} {c : List Value} (h : OwnL k v c O) (hv : Mem w0 w (A ++ O ++ B) R) : FRb w0 (k, v, c) := by
  intro hc
  rcases h with ⟨rfl, rfl, rfl⟩ | ⟨x, ⟨n, cap, rfl, _⟩, rfl⟩
  · exact (hc rfl).elim
  · exact ⟨x.1, 0, n, cap, rfl, (hv.vars.rows x (by simp)).2.2⟩
/-- The first k of N. -/
def fstN (N k : Nat) : List (Fin N) := (List.finRange N).take k
theorem fstN_succ {N k : Nat} (h : k < N) : fstN N (k + 1) = fstN N k ++ [⟨k, h⟩] := by
  unfold fstN
  rw [List.take_succ_eq_append_getElem (by simpa using h)]
  simp
theorem fstN_len {N k : Nat} (h : k ≤ N) : (fstN N k).length = k := by unfold fstN; simp; omega
theorem fstN_all (N : Nat) : fstN N N = List.finRange N := by unfold fstN; exact List.take_of_length_le (by simp)
theorem fstN_zero (N : Nat) : fstN N 0 = [] := rfl
end Go
