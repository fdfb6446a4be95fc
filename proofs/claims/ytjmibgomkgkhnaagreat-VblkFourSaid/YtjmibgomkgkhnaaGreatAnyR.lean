/-
 The rules of the walk over a region that draws its order (XAny): an operation passed over; a value; a call's values; a block laid; a variable written. No program in sight.
-/
import Derived.Test.YtjmibgomkgkhnaaGreatAny
set_option linter.unusedVariables false
set_option linter.unusedSimpArgs false
namespace Go
namespace Any
open Go.RowKit
section
variable {P : Program} {ops : Array Oper} {β : Base} {S : Nat → Stat} {D : Nat → Kind} {Q : Act → Env → Prop} {k : Nat} {o : Oper} {rest : List Oper} {a : Act} {E : Env}
theorem E_nil (h : Q a E) : wpE P ops β S D Q k [] a E := h
theorem E_off (hw : Region.wanted o (yielded ops a.tmps) = false) (hk : wpE P ops β S D Q (k + 1) rest (a.put o.dst undef) E) : wpE P ops β S D Q k (o :: rest) a E := .inl ⟨hw, hk⟩
theorem Act.put_inj {a : Act} {d : Tmp} {u v : Value} (hd : d < a.tmps.size) (h : a.put (some d) u = a.put (some d) v) : u = v := by
 have e : (a.put (some d) u).tmps[d]? = (a.put (some d) v).tmps[d]? := by rw [h]
 simpa [Act.put, hd] using e
theorem res_of_quiet {C : World → Prop} {w : World} {v : Value} {R : Value → World → Prop} (hw : C w) (h : o.quietAt P a C w v) (hR : ∀ w', C w' → R v w') : res P o a w R := by
 unfold Oper.quietAt at h
 unfold res
 generalize (execOp a.eval o).run P w = r at *
 cases r with
 | ok n w' =>
   cases n <;> simp only [Oper.quietUpon] at h <;> simp only [upon]
   case value u => obtain ⟨e1, e2⟩ := h; rw [e1, e2]; exact hR _ hw
   case skip => obtain ⟨e1, e2⟩ := h; subst e2; rw [e1]; exact hR _ hw
   case enter f args => obtain ⟨e1, hc⟩ := h; rw [e1]; exact hc.mono fun e w'' ⟨he, hw''⟩ => ⟨v, he, hR _ hw''⟩
 | halt x w' => simp only [Oper.quietUpon] at h
theorem E_val {d : Tmp} {v : Value} (hd : o.dst = some d) (hsz : decide (d < a.tmps.size) = true) (hw : Region.wanted o (yielded ops a.tmps) = true) (hS : (S k).write = none)
   (h : ∀ E', agree (S k).keys E E' → ∀ K : Act → Prop, (∀ a', a' = a.put o.dst v → K a') → o.quiet P a (VE β E') K) (hD : D k = .val v) (hk : wpE P ops β S D Q (k + 1) rest (a.put o.dst v) E) : wpE P ops β S D Q k (o :: rest) a E := by
 refine .inr ⟨⟨hw, ⟨v, (0, #[]), by rw [hD]; rfl⟩, fun E' he w hv => ?_⟩, fun u x hs => ?_⟩
 · obtain ⟨u, h1, h2⟩ := h E' he (fun a' => a' = a.put o.dst v) (fun _ e => e)
   rw [hd] at h2
   have e := Act.put_inj (of_decide_eq_true hsz) h2
   refine res_of_quiet hv (h1 w hv) fun w' hw' => ⟨(0, #[]), ?_, ?_⟩
   · rw [hD]; exact e
   · rw [hS]; exact hw'
 · rw [hD] at hs
   have hs : u = v := hs
   rw [hs, hS]; exact hk
theorem E_pure {v : Value} (hw : Region.wanted o (yielded ops a.tmps) = true) (hD : D k = .pure) (hS : (S k).write = none) (hr : ∀ w, (execOp a.eval o).run P w = .ok (.value v) w)
   (hk : wpE P ops β S D Q (k + 1) rest (a.put o.dst v) E) : wpE P ops β S D Q k (o :: rest) a E := by
 refine .inr ⟨⟨hw, ⟨v, (0, #[]), by rw [hD]; exact ⟨β.W, hr _⟩⟩, fun E' he w hv => ?_⟩, fun u x hs => ?_⟩
 · unfold res
   rw [hr w]
   refine ⟨(0, #[]), ?_, ?_⟩
   · rw [hD]; exact ⟨w, hr w⟩
   · rw [hS]; exact hv
 · rw [hD] at hs
   obtain ⟨w, hw'⟩ := hs
   rw [hr w] at hw'
   cases hw'
   rw [hS]; exact hk
theorem E_pureq {v : Value} (hw : Region.wanted o (yielded ops a.tmps) = true) (hD : D k = .pure) (hS : (S k).write = none) (h : ∀ K : Act → Prop, (∀ a', a' = a.put o.dst v → K a') → o.quiet P a (fun _ => True) K) (hr : ∀ w, (execOp a.eval o).run P w = .ok (.value v) w)
   (hk : wpE P ops β S D Q (k + 1) rest (a.put o.dst v) E) : wpE P ops β S D Q k (o :: rest) a E := E_pure hw hD hS hr hk
theorem E_own {W : Value → Nat × Array Value → Prop} {i : Nat} (hw : Region.wanted o (yielded ops a.tmps) = true) (hD : D k = .own W) (hS : (S k).write = some i) (hs : ∃ v x, W v x)
   (h : ∀ E', agree (S k).keys E E' → ∀ w, VE β E' w → res P o a w fun v w' => ∃ x, W v x ∧ VE β (E'.put i x) w')
   (hk : ∀ v x, W v x → wpE P ops β S D Q (k + 1) rest (a.put o.dst v) (E.put i x)) : wpE P ops β S D Q k (o :: rest) a E := by
 obtain ⟨v0, x0, h0⟩ := hs
 refine .inr ⟨⟨hw, ⟨v0, x0, by rw [hD]; exact h0⟩, fun E' he w hv => ?_⟩, fun u x hs => ?_⟩
 · refine res_mono (h E' he w hv) fun v w' ⟨x, h1, h2⟩ => ⟨x, ?_, ?_⟩
   · rw [hD]; exact h1
   · rw [hS]; exact h2
 · rw [hD] at hs
   rw [hS]; exact hk u x hs
abbrev laid (mk : Nat → Value) (z : Array Value) : Value → Nat × Array Value → Prop := fun v x => v = mk x.1 ∧ x.2 = z
theorem E_laid {mk : Nat → Value} {z : Array Value} {t : TypeId} {i : Nat} (hw : Region.wanted o (yielded ops a.tmps) = true) (hD : D k = .own (laid mk z)) (hS : (S k).write = some i)
   (hr : ∀ w, (execOp a.eval o).run P w = .ok (.value (mk w.heap.size)) (w.alloc (.cells z t)))
   (hk : ∀ B, wpE P ops β S D Q (k + 1) rest (a.put o.dst (mk B)) (E.put i (B, z))) : wpE P ops β S D Q k (o :: rest) a E := by
 refine E_own hw hD hS ⟨mk 0, (0, z), rfl, rfl⟩ (fun E' _ w hv => ?_) (fun v x hx => ?_)
 · unfold res
   rw [hr w]
   have hm := made_alloc w z t
   exact ⟨(w.heap.size, z), ⟨rfl, rfl⟩, hv.lay (Nat.le_refl _) hm.new hm.row hm.soft⟩
 · obtain ⟨rfl, h2⟩ := hx
   have : x = (x.1, z) := by rw [← h2]
   rw [this]; exact hk x.1
theorem E_lay {z : Array Value} {t : TypeId} {i : Nat} (hw : Region.wanted o (yielded ops a.tmps) = true) (hD : D k = .own (laid (fun B => .pointer (some ⟨B, 0, none⟩)) z)) (hS : (S k).write = some i)
   (hr : ∀ w, (execOp a.eval o).run P w = .ok (.value (.pointer (some ⟨w.heap.size, 0, none⟩))) (w.alloc (.cells z t)))
   (hk : ∀ B, wpE P ops β S D Q (k + 1) rest (a.put o.dst (.pointer (some ⟨B, 0, none⟩))) (E.put i (B, z))) : wpE P ops β S D Q k (o :: rest) a E :=
 E_laid hw hD hS hr hk
theorem E_bsl {n : Nat} {z : Array Value} {t : TypeId} {i : Nat} (hw : Region.wanted o (yielded ops a.tmps) = true) (hD : D k = .own (laid (fun B => .slice (some ⟨B, 0, none⟩) n n) z)) (hS : (S k).write = some i)
   (hr : ∀ w, (execOp a.eval o).run P w = .ok (.value (.slice (some ⟨w.heap.size, 0, none⟩) n n)) (w.alloc (.cells z t)))
   (hk : ∀ B, wpE P ops β S D Q (k + 1) rest (a.put o.dst (.slice (some ⟨B, 0, none⟩) n n)) (E.put i (B, z))) : wpE P ops β S D Q k (o :: rest) a E :=
 E_laid hw hD hS hr hk
theorem E_put {T : TypeId} {px py : Operand} {i B off : Nat} {c0 c : Array Value} (hw : Region.wanted o (yielded ops a.tmps) = true) (hD : D k = .put) (hS : (S k).write = some i) (ho : o.op = .store T px py) (hp : a.eval px = .pointer (some ⟨B, off, none⟩)) (hE : E i = some (B, c0))
   (hc : splice c0 off (a.eval py).cells = c) (hr : ∀ w, w.rowD B = c0 → w.soft B = true → ∃ w', (execOp a.eval o).run P w = .ok .skip w' ∧ Wrote w w' B c)
   (hk : wpE P ops β S D Q (k + 1) rest (a.put o.dst undef) (E.put i (B, c))) : wpE P ops β S D Q k (o :: rest) a E := by
 have hmem : i ∈ (S k).keys := by unfold Stat.keys; rw [hS]; simp
 refine .inr ⟨⟨hw, ⟨undef, (B, c), ?_⟩, fun E' he w hv => ?_⟩, fun u x hs => ?_⟩
 · rw [hD]
   exact ⟨rfl, T, px, py, off, c0, i, hS, ho, hp, hE, hc.symm⟩
 · have hE' : E' i = some (B, c0) := by rw [he i hmem]; exact hE
   obtain ⟨h1, h2, _⟩ := hv.own i B c0 hE'
   obtain ⟨w', r, hw'⟩ := hr w h1 h2
   unfold res
   rw [r]
   refine ⟨(B, c), ?_, ?_⟩
   · rw [hD]
     exact ⟨rfl, T, px, py, off, c0, i, hS, ho, hp, hE', hc.symm⟩
   · rw [hS]; exact hv.fill hE' hw'
 · rw [hD] at hs
   obtain ⟨rfl, T', px', py', off', c1, k', g1, g2, g3, g4, g5⟩ := hs
   rw [hS] at g1
   cases g1
   rw [ho] at g2
   cases g2
   rw [hp] at g3
   rw [hE] at g4
   cases g3
   obtain ⟨x1, x2⟩ := x
   cases g4
   rw [hS, show x2 = c from g5.trans hc]
   exact hk
theorem splice_whole {c0 c : Array Value} (h : c0.size = c.size) : splice c0 0 c = c := by
 apply Array.ext_getElem?
 intro i
 rw [get_splice _ _ _ (by omega), if_neg (by omega)]
 by_cases hi' : i < c.size
 · rw [if_pos (by omega)]; simp
 · rw [if_neg (by omega), Array.getElem?_eq_none (by omega), Array.getElem?_eq_none (by omega)]
theorem splice_one {c0 : Array Value} {off : Nat} {v : Value} (h : off < c0.size) : splice c0 off #[v] = c0.setIfInBounds off v := by
 apply Array.ext_getElem?
 intro i
 rw [get_splice _ _ _ (by simp; omega), Array.getElem?_setIfInBounds]
 have hs : (#[v] : Array Value).size = 1 := rfl
 rw [hs]
 by_cases h1 : i < off
 · rw [if_pos h1, if_neg (by omega)]
 · rw [if_neg h1]
   by_cases h2 : i = off
   · subst h2; rw [if_pos (by omega), if_pos rfl, if_pos h]; simp
   · rw [if_neg (by omega), if_neg (by omega)]
theorem oneCell_cells {v : Value} (h : v.oneCell' = true) : v.cells = #[v] := by cases v <;> first | rfl | cases h
theorem run_stv (w : World) (ty : TypeId) (x y : Operand) (ho : o.op = .store ty x y) (b : Nat) (cells : Array Value) (hx : a.eval x = .pointer (some ⟨b, 0, none⟩)) (hy : a.eval y = .agg cells) (n : Nat) (hi : (P.info? ty).map (·.size) = some n)
   (hc : cells.size = n) (h1 : cells.all (·.oneCell') = true) (hsoft : w.soft b = true) (hs : (w.rowD b).size = n) : ∃ w', (execOp a.eval o).run P w = .ok .skip w' ∧ Wrote w w' b cells := by
 have e := setCells_row cells.toList w b 0 hsoft (by simp; omega)
 have ht : w.there b 0 cells.size := fun j hj => by
   obtain ⟨t, ht⟩ := soft_heap hsoft
   refine ⟨?_, frozen_of_row w b _ _ t ht⟩
   rw [cell_rowD, Array.getElem?_eq_getElem (by omega)]; rfl
 have e2 : splice (w.rowD b) 0 cells = cells := by
   apply Array.ext_getElem?
   intro i
   rw [get_splice _ _ _ (by omega), if_neg (by omega)]
   by_cases hi' : i < cells.size
   · rw [if_pos (by omega)]; simp
   · rw [if_neg (by omega), Array.getElem?_eq_none (by omega), Array.getElem?_eq_none (by omega)]
 refine ⟨w.setRow b cells, ?_, wrote_setRow hsoft⟩
 unfold execOp
 simp only [ho, hx, hy, Instr.storeAt, Instr.sureAddr, Sem.run_bind, Sem.run_pure, Result.andThen_ok, run_storeVar_mid w b 0 ty cells ht (by rw [hc]; exact hi) h1, e]
 rw [Array.toArray_toList, e2]
theorem run_stc (w : World) (ty : TypeId) (x y : Operand) (ho : o.op = .store ty x y) (b off : Nat) (v : Value) (hx : a.eval x = .pointer (some ⟨b, off, none⟩)) (hy : a.eval y = v) (hi : (P.info? ty).map (·.size) = some 1)
   (h1 : v.oneCell' = true) (hsoft : w.soft b = true) (hs : off < (w.rowD b).size) : ∃ w', (execOp a.eval o).run P w = .ok .skip w' ∧ Wrote w w' b ((w.rowD b).setIfInBounds off v) := by
 obtain ⟨t, ht⟩ := soft_heap hsoft
 have hc : w.cell? ⟨b, off, none⟩ = some (w.rowD b)[off] := by rw [cell_rowD, Array.getElem?_eq_getElem hs]
 have hf : w.frozen? ⟨b, off, none⟩ = false := frozen_of_row w b off _ t ht
 have hv : v.cells = #[v] := by cases v <;> first | rfl | cases h1
 cases hq : P.info? ty with
 | none => simp [hq] at hi
 | some i =>
   have hsz : i.size = 1 := by simpa [hq] using hi
   have hrun : (storeVar ty ⟨b, off, none⟩ v).run P w = .ok () (w.setCell ⟨b, off, none⟩ v) := by
     simp [storeVar, sizeOf, typeInfo, hq, hv, hsz, storeCells, Addr.add, run_store, h1, hc, hf]
   refine ⟨w.setCell ⟨b, off, none⟩ v, ?_, ?_⟩
   · unfold execOp
     simp only [ho, hx, hy, Instr.storeAt, Instr.sureAddr, Sem.run_bind, Sem.run_pure, Result.andThen_ok, hrun]
   · rw [setCell_eq_setRow w b off _ t (0, 0) v ht]
     exact wrote_setRow hsoft
end
section
variable {P : Program} {ops : Array Oper} {β : Base} {S : Nat → Stat} {D : Nat → Kind} {Q : Act → Env → Prop} {k : Nat} {rest : List Oper} {a : Act} {E : Env}
variable {dst : Option Tmp} {ty T : TypeId} {pos : String} {after : Array Edge} {g : Option (Nat × Bool)} {x y : Operand}
theorem at_ealloc (h : wpE P ops β S D Q k (⟨dst, .alloc T, ty, pos, after, g⟩ :: rest) a E) : wpE P ops β S D Q k (⟨dst, .alloc T, ty, pos, after, g⟩ :: rest) a E := h
theorem at_ebsl {n : Nat} {ps : Array (Nat × Operand)} (h : wpE P ops β S D Q k (⟨dst, .buildSlice T n ps, ty, pos, after, g⟩ :: rest) a E) : wpE P ops β S D Q k (⟨dst, .buildSlice T n ps, ty, pos, after, g⟩ :: rest) a E := h
theorem at_estore (h : wpE P ops β S D Q k (⟨dst, .store T x y, ty, pos, after, g⟩ :: rest) a E) : wpE P ops β S D Q k (⟨dst, .store T x y, ty, pos, after, g⟩ :: rest) a E := h
theorem E_putv {i B : Nat} {c0 c : Array Value} (hw : Region.wanted (⟨dst, .store T x y, ty, pos, after, g⟩ : Oper) (yielded ops a.tmps) = true) (hD : D k = .put) (hS : (S k).write = some i) (hx : a.eval x = .pointer (some ⟨B, 0, none⟩)) (hE : E i = some (B, c0))
   (hy : a.eval y = .agg c) (n : Nat) (hi : (P.info? T).map (·.size) = some n) (hc : c.size = n) (h0 : c0.size = n) (h1 : c.all (·.oneCell') = true)
   (hk : wpE P ops β S D Q (k + 1) rest (a.put dst undef) (E.put i (B, c))) : wpE P ops β S D Q k (⟨dst, .store T x y, ty, pos, after, g⟩ :: rest) a E :=
 E_put hw hD hS rfl hx hE (by rw [hy]; exact splice_whole (h0.trans hc.symm)) (fun w hr hs => run_stv (o := ⟨dst, .store T x y, ty, pos, after, g⟩) w T x y rfl B c hx hy n hi hc h1 hs (by rw [hr]; exact h0)) hk
theorem E_putc {i B off : Nat} {c0 : Array Value} {v : Value} (hw : Region.wanted (⟨dst, .store T x y, ty, pos, after, g⟩ : Oper) (yielded ops a.tmps) = true) (hD : D k = .put) (hS : (S k).write = some i) (hx : a.eval x = .pointer (some ⟨B, off, none⟩)) (hE : E i = some (B, c0))
   (hy : a.eval y = v) (hi : (P.info? T).map (·.size) = some 1) (h1 : v.oneCell' = true) (h0 : off < c0.size)
   (hk : wpE P ops β S D Q (k + 1) rest (a.put dst undef) (E.put i (B, c0.setIfInBounds off v))) : wpE P ops β S D Q k (⟨dst, .store T x y, ty, pos, after, g⟩ :: rest) a E :=
 E_put hw hD hS rfl hx hE (by rw [hy, oneCell_cells h1]; exact splice_one h0) (fun w hr hs => by have := run_stc (P := P) (a := a) (o := ⟨dst, .store T x y, ty, pos, after, g⟩) w T x y rfl B off v hx hy hi h1 hs (by rw [hr]; exact h0); rw [hr] at this; exact this) hk
end
/-! Loads. -/
section
variable {P : Program} {β : Base} {E E' : Env} {a : Act} {K : Act → Prop} {dst : Option Tmp} {ty T : TypeId} {pos : String} {after : Array Edge} {g : Option (Nat × Bool)} {x : Operand} {ks : List Nat}
theorem at_qload {C : World → Prop} (h : Oper.quiet P ⟨dst, .load T x, ty, pos, after, g⟩ a C K) : Oper.quiet P ⟨dst, .load T x, ty, pos, after, g⟩ a C K := h
theorem q_ldv (i : Nat) (hA : agree ks E E') (hm : i ∈ ks) {B : Nat} {c : Array Value} (hx : a.eval x = .pointer (some ⟨B, 0, none⟩)) (hE : E i = some (B, c)) (n : Nat) (d : TypeDesc)
   (hu : P.underlying T = some d) (hd : d.isRow = true) (hi : (P.info? T).map (·.size) = some n) (hn : 0 < n) (hs : c.size = n) (hk : K (a.put dst (.agg c))) : Oper.quiet P ⟨dst, .load T x, ty, pos, after, g⟩ a (VE β E') K :=
 quiet_load_any T x rfl B 0 hx n d hu hd hi hn c (fun w hw => by
   have := (hw.own i B c (by rw [hA i hm]; exact hE)).1
   rw [this, hs]; exact ⟨by omega, by subst hs; simp⟩) hk
theorem q_ldp (i : Nat) (hA : agree ks E E') (hm : i ∈ ks) {B o : Nat} {c : Array Value} (hx : a.eval x = .pointer (some ⟨B, o, none⟩)) (hE : E i = some (B, c)) (n : Nat) (d : TypeDesc)
   (hu : P.underlying T = some d) (hd : d.isRow = true) (hi : (P.info? T).map (·.size) = some n) (hn : 0 < n) (hs : o + n ≤ c.size) (v : Array Value) (hv : c.extract o (o + n) = v) (hk : K (a.put dst (.agg v))) : Oper.quiet P ⟨dst, .load T x, ty, pos, after, g⟩ a (VE β E') K :=
 quiet_load_any T x rfl B o hx n d hu hd hi hn v (fun w hw => by
   have := (hw.own i B c (by rw [hA i hm]; exact hE)).1
   rw [this]; exact ⟨hs, hv⟩) hk
theorem q_ldc (i : Nat) (hA : agree ks E E') (hm : i ∈ ks) {B o : Nat} {c : Array Value} (hx : a.eval x = .pointer (some ⟨B, o, none⟩)) (hE : E i = some (B, c)) (d : TypeDesc)
   (hu : P.underlying T = some d) (hd : d.isRow = false) (v : Value) (hv : c[o]? = some v) (hk : K (a.put dst v)) : Oper.quiet P ⟨dst, .load T x, ty, pos, after, g⟩ a (VE β E') K :=
 quiet_load_cell T x rfl B o hx d hu hd v (fun w hw => by
   have := (hw.own i B c (by rw [hA i hm]; exact hE)).1
   rw [this]; exact hv) hk
end
def someVals : Nat → (List Value → Prop) → Prop
 | 0, p => p []
 | n + 1, p => ∃ v, someVals n (fun l => p (v :: l))
theorem of_someVals {R : Prop} : ∀ (n : Nat) {p : List Value → Prop}, (∀ l, p l → R) → someVals n p → R
 | 0, _, h, hs => h _ hs
 | n + 1, _, h, ⟨v, hs⟩ => of_someVals n (fun l hl => h (v :: l) hl) hs
inductive Mark where
 | val
 | put
 | pure
 | own (W : Value → Nat × Array Value → Prop)
 | rel (V : Value → Prop)
 | laidBy (mk : Nat → Value)
 | env (j : Nat) (W : Array Value → Value → Nat × Array Value → Prop)
abbrev Mark.lay (z : Array Value) : Mark := .own (laid (fun B => .pointer (some ⟨B, 0, none⟩)) z)
abbrev Mark.bsl (n : Nat) (z : Array Value) : Mark := .own (laid (fun B => .slice (some ⟨B, 0, none⟩) n n) z)
def kindOf (ms : List Mark) (vs : List Value) (i : Nat) : Kind := match ms.getD i .val with
 | .val => .val (vs.getD i undef)
 | .put => .put
 | .pure => .pure
 | .own W => .own W
 | .laidBy mk => .laidBy mk
 | .env j W => .env j W
 | .rel V => .rel V
theorem wp_region_walk {P : Program} {id : Nat} {Q : Exit → Act → World → Prop} {a : Act} {w0 w : World} {L : List (Nat × Array Value)} {l : List Oper} (ss : List Stat) (ms : List Mark) (hm : P.follows .mixedOrders = true)
   (hB : lexFB .any l.toArray (fun i => ss.getD i ⟨[], none⟩) = true) (hv : Vars w0 w L)
   (h : someVals l.length fun vs => wpE P l.toArray ⟨w0, w.drewN 1, L.map (·.1)⟩ (fun i => ss.getD i ⟨[], none⟩) (kindOf ms vs) (fun a' E' => ∀ w', VE ⟨w0, w.drewN 1, L.map (·.1)⟩ E' w' → Q .normal a' w') 0 l a (Env.of L)) : (Code.region id l.toArray true).wp P Q a w :=
 of_someVals _ (fun vs h => wp_region (fun i => ss.getD i ⟨[], none⟩) (kindOf ms vs) hm hB hv h) h
theorem calls_VE {P : Program} {f : FuncId} {args : Array Value} {β : Base} {w : World} {v : Value} {E : Env} (h : Calls P f args w fun e w' => e = .returned v ∧ New w w') (hv : VE β E w) :
   Calls P f args w fun e w' => e = .returned v ∧ VE β E w' := h.mono fun _ _ ⟨a, b⟩ => ⟨a, hv.new b⟩
theorem calls_VEq {P : Program} {f : FuncId} {args : Array Value} {β : Base} {w : World} {v : Value} {E : Env} (h : Calls P f args w fun e w' => e = .returned v ∧ w = w') (hv : VE β E w) :
   Calls P f args w fun e w' => e = .returned v ∧ VE β E w' := h.mono fun _ _ ⟨a, b⟩ => ⟨a, by rw [← b]; exact hv⟩
end Any
end Go
