import Derived.Test.YtjmibgomkgkhnaaGreatIn
import Derived.Maps.OwnIn
import Derived.Maps.OwnSet
set_option linter.unusedSimpArgs false
set_option linter.unusedVariables false
section
/-
 A map of the call's own from numbers to bools, all of them true: which numbers it has. No program in sight.
-/
namespace Go
open Go.RowKit
def IdM (P : Program) (k e : TypeId) (w : World) (b : Nat) (ids : List Int) : Prop :=
 ∃ D, w.ownsMap P k (plainElem (H := Unit) P e) b ids.length D ∧ (∀ x, D.atKey (.int .i64 x) (.lit (.bool false)) = .lit (.bool (decide (x ∈ ids)))) ∧ (∀ x, Maps.has D (.int .i64 x) = decide (x ∈ ids)) ∧ (ids.Nodup → Maps.size D = ids.length)
section
variable {P : Program} {k e t : TypeId} {w : World} {b : Nat} {ids : List Int}
theorem plainElem_bool_inv (he : P.underlying e = some .bool) {v : Value} {x : Bool} {ps : List MemPlace} (h : plainElem (H := Unit) P e v = some (.lit (.bool x), ps)) : v = .bool x := by
 unfold plainElem at h
 rw [he] at h
 cases v <;> simp at h
 rw [h.1]
theorem IdM.made (w : World) (P : Program) (k e : TypeId) : IdM P k e (w.alloc (.map #[] 0)) w.heap.size [] :=
 ⟨_, World.ownsMap_made w P k _, fun x => by simp [DataW.atKey], fun x => by simp [Maps.has], fun _ => rfl⟩
theorem IdM.lt (h : IdM P k e w b ids) : b < w.heap.size := by obtain ⟨D, h, _⟩ := h; exact h.lt
theorem IdM.kept {w' : World} {row : Option Nat} (h : IdM P k e w b ids) (hg : w.grownBy w' row) (hne : some b ≠ row) : IdM P k e w' b ids := by
 obtain ⟨D, h1, h2⟩ := h
 exact ⟨D, h1.kept hg hne, h2⟩
theorem IdM.new {w' : World} (h : IdM P k e w b ids) (hn : New w w') : IdM P k e w' b ids := h.kept (hn.grown none) (by simp)
theorem IdM.noCells (h : IdM P k e w b ids) : ∃ o : Obj, w.heap[b]? = some o ∧ o.isCells = false := by
 obtain ⟨D, ⟨es, ck, hb, _⟩, _⟩ := h
 exact ⟨_, hb, rfl⟩
theorem IdM.wrote {w' : World} {b' : Nat} {c : Array Value} (h : IdM P k e w b ids) (hw : Wrote w w' b' c) (hs : w.soft b' = true) : IdM P k e w' b ids := by
 have hne : b ≠ b' := fun e => by
   obtain ⟨o, ho, hc⟩ := h.noCells
   obtain ⟨t, ht⟩ := soft_heap hs
   subst e
   rw [ht] at ho; cases ho; cases hc
 refine h.kept (row := some b') ⟨hw.os, hw.tape, hw.output, by rw [hw.size]; exact Nat.le_refl _, fun j _ hj => hw.other j (fun e => hj (by rw [e]))⟩ (fun e => hne (by cases e; rfl))
theorem IdM.look (h : IdM P k e w b ids) (hk : P.underlying k = some (.int .i64)) (ht : P.underlying t = some (.map k e)) (he : P.underlying e = some .bool) (hz : (zeroValue e).run P w = .ok (.bool false) w) {x : Int} (hx : (Lit.int .i64 x).wf = true) :
   (Instr.lookup t (.map (some b)) (.int .i64 x) false).run P w = .ok (.bool (decide (x ∈ ids))) w := by
 obtain ⟨D, h1, h2, _⟩ := h
 obtain ⟨v, ps, hr, hv⟩ := h1.lookup (Maps.int_keyed hk) ht hz (plainElem_bool he false) (Maps.keyOf_int_mk hk hx)
 rw [h2 x] at hv
 rw [hr, plainElem_bool_inv he hv]
theorem IdM.len (h : IdM P k e w b ids) (ht : P.underlying t = some (.map k e)) (hn : ids.Nodup) (ty : TypeId) : (Builtin.len_ #[t] ty #[.map (some b)]).run P w = .ok (.int .i64 (ids.length : Nat)) w := by
 obtain ⟨D, h1, _, _, h4⟩ := h
 rw [h1.len ht ty, h4 hn]
theorem IdM.put (h : IdM P k e w b ids) (hk : P.underlying k = some (.int .i64)) (ht : P.underlying t = some (.map k e)) (he : P.underlying e = some .bool) (hl : ids.length < maxLen) {x : Int} (hx : (Lit.int .i64 x).wf = true) :
   ∃ w', (Instr.mapUpdate t (.map (some b)) (.int .i64 x) (.bool true)).run P w = .ok () w' ∧ IdM P k e w' b (ids ++ [x]) ∧ w.grownBy w' (some b) := by
 obtain ⟨D, h1, h2, h3, h4⟩ := h
 obtain ⟨w', r1, r2, r3⟩ := h1.update (Maps.int_keyed hk) ht hl (Maps.keyOf_int_mk hk hx) (plainElem_bool he true)
 have hD := h1.isMap
 have hTd := h1.tidy (Maps.int_keyed hk)
 refine ⟨w', r1, ⟨_, by rw [List.length_append]; exact r2, fun y => ?_, fun y => ?_, fun hn => ?_⟩, r3⟩
 · by_cases hy : y = x
   · subst hy
     rw [Maps.atKey_put_same hD (by simp [WideAt.IsKeyLit])]
     simp
   · rw [Maps.atKey_put_other (by simpa using hy), h2 y]
     simp [hy]
 · by_cases hy : y = x
   · subst hy
     rw [Maps.has_put_same hD (by simp [WideAt.IsKeyLit])]
     simp
   · rw [Maps.has_put_other (by simpa using hy), h3 y]
     simp [hy]
 · rw [List.nodup_append] at hn
   have hnx : x ∉ ids := fun hm => hn.2.2 x hm x (by simp) rfl
   rw [Maps.size_put hTd, h3 x, h4 hn.1]
   simp [hnx]
end
section
variable {F : Fence} {n : Nat} {P : Program} {ops : Array Oper} {rest : List Oper} {a : Act} {w w' : World} {Q : Exit → Act → World → Prop} {o : Oper}
variable {dst : Option Tmp} {ty T t e k : TypeId} {pos : String} {after : Array Edge} {g : Option (Nat × Bool)} {x y z : Operand} {b : Nat} {ids : List Int}
end
end Go
end

section
/-
 A map of the call's own from numbers to bools, all of them true: numbers put, looked up, deleted. No program in sight.
-/
namespace Go
open Go.RowKit
def IdS (P : Program) (k e : TypeId) (w : World) (b n : Nat) (ids : List Int) : Prop :=
 ids.Nodup ∧ ∃ D, w.ownsMap P k (plainElem (H := Unit) P e) b n D ∧ (∀ x, D.atKey (.int .i64 x) (.lit (.bool false)) = .lit (.bool (decide (x ∈ ids)))) ∧ (∀ x, Maps.has D (.int .i64 x) = decide (x ∈ ids)) ∧ Maps.size D = ids.length
section
variable {P : Program} {k e t : TypeId} {w : World} {b n : Nat} {ids : List Int}
theorem IdS.made (w : World) (P : Program) (k e : TypeId) : IdS P k e (w.alloc (.map #[] 0)) w.heap.size 0 [] :=
 ⟨List.nodup_nil, _, World.ownsMap_made w P k _, fun x => by simp [DataW.atKey], fun x => by simp [Maps.has], rfl⟩
theorem IdS.lt (h : IdS P k e w b n ids) : b < w.heap.size := by obtain ⟨_, D, h, _⟩ := h; exact h.lt
theorem IdS.kept {w' : World} {row : Option Nat} (h : IdS P k e w b n ids) (hg : w.grownBy w' row) (hne : some b ≠ row) : IdS P k e w' b n ids := by
 obtain ⟨hn, D, h1, h2⟩ := h
 exact ⟨hn, D, h1.kept hg hne, h2⟩
theorem IdS.new {w' : World} (h : IdS P k e w b n ids) (hn : New w w') : IdS P k e w' b n ids := h.kept (hn.grown none) (by simp)
theorem IdS.noCells (h : IdS P k e w b n ids) : ∃ o : Obj, w.heap[b]? = some o ∧ o.isCells = false := by
 obtain ⟨_, D, ⟨es, ck, hb, _⟩, _⟩ := h
 exact ⟨_, hb, rfl⟩
theorem IdS.wrote {w' : World} {b' : Nat} {c : Array Value} (h : IdS P k e w b n ids) (hw : Wrote w w' b' c) (hs : w.soft b' = true) : IdS P k e w' b n ids := by
 have hne : b ≠ b' := fun e => by
   obtain ⟨o, ho, hc⟩ := h.noCells
   obtain ⟨t, ht⟩ := soft_heap hs
   subst e
   rw [ht] at ho; cases ho; cases hc
 refine h.kept (row := some b') ⟨hw.os, hw.tape, hw.output, by rw [hw.size]; exact Nat.le_refl _, fun j _ hj => hw.other j (fun e => hj (by rw [e]))⟩ (fun e => hne (by cases e; rfl))
theorem IdS.look (h : IdS P k e w b n ids) (hk : P.underlying k = some (.int .i64)) (ht : P.underlying t = some (.map k e)) (he : P.underlying e = some .bool) (hz : (zeroValue e).run P w = .ok (.bool false) w) {x : Int} (hx : (Lit.int .i64 x).wf = true) :
   (Instr.lookup t (.map (some b)) (.int .i64 x) false).run P w = .ok (.bool (decide (x ∈ ids))) w := by
 obtain ⟨_, D, h1, h2, _⟩ := h
 obtain ⟨v, ps, hr, hv⟩ := h1.lookup (Maps.int_keyed hk) ht hz (plainElem_bool he false) (Maps.keyOf_int_mk hk hx)
 rw [h2 x] at hv
 rw [hr, plainElem_bool_inv he hv]
theorem IdS.len (h : IdS P k e w b n ids) (ht : P.underlying t = some (.map k e)) (ty : TypeId) : (Builtin.len_ #[t] ty #[.map (some b)]).run P w = .ok (.int .i64 (ids.length : Nat)) w := by
 obtain ⟨_, D, h1, _, _, h4⟩ := h
 rw [h1.len ht ty, h4]
theorem IdS.put (h : IdS P k e w b n ids) (hk : P.underlying k = some (.int .i64)) (ht : P.underlying t = some (.map k e)) (he : P.underlying e = some .bool) (hl : n < maxLen) {x : Int} (hx : (Lit.int .i64 x).wf = true) (hnx : x ∉ ids) :
   ∃ w', (Instr.mapUpdate t (.map (some b)) (.int .i64 x) (.bool true)).run P w = .ok () w' ∧ IdS P k e w' b (n + 1) (ids ++ [x]) ∧ w.grownBy w' (some b) := by
 obtain ⟨hn, D, h1, h2, h3, h4⟩ := h
 obtain ⟨w', r1, r2, r3⟩ := h1.update (Maps.int_keyed hk) ht hl (Maps.keyOf_int_mk hk hx) (plainElem_bool he true)
 have hD := h1.isMap
 have hTd := h1.tidy (Maps.int_keyed hk)
 refine ⟨w', r1, ⟨?_, _, r2, fun y => ?_, fun y => ?_, ?_⟩, r3⟩
 · rw [List.nodup_append]
   exact ⟨hn, by simp, fun a ha c hc e => hnx (by rw [List.mem_singleton.1 hc] at e; rw [← e]; exact ha)⟩
 · by_cases hy : y = x
   · subst hy
     rw [Maps.atKey_put_same hD (by simp [WideAt.IsKeyLit])]
     simp
   · rw [Maps.atKey_put_other (by simpa using hy), h2 y]
     simp [hy]
 · by_cases hy : y = x
   · subst hy
     rw [Maps.has_put_same hD (by simp [WideAt.IsKeyLit])]
     simp
   · rw [Maps.has_put_other (by simpa using hy), h3 y]
     simp [hy]
 · rw [Maps.size_put hTd, h3 x, h4]
   simp [hnx]
end
section
variable {P : Program} {ops : Array Oper} {rest : List Oper} {a : Act} {w w0 : World} {Q : Exit → Act → World → Prop} {L : List (Nat × Array Value)} {R : List (Nat × Value × List Value)}
variable {dst : Option Tmp} {ty T t e k k' : TypeId} {pos : String} {after : Array Edge} {g : Option (Nat × Bool)} {x y z : Operand} {b n : Nat} {ids : List Int}
theorem at_lookup (h : wpList P ops Q (⟨dst, .lookup t x y false, ty, pos, after, g⟩ :: rest) a w) : wpList P ops Q (⟨dst, .lookup t x y false, ty, pos, after, g⟩ :: rest) a w := h
theorem at_mapUpdate (h : wpList P ops Q (⟨dst, .mapUpdate t x y z, ty, pos, after, g⟩ :: rest) a w) : wpList P ops Q (⟨dst, .mapUpdate t x y z, ty, pos, after, g⟩ :: rest) a w := h
theorem at_mkmap {r : Option Operand} (h : wpList P ops Q (⟨dst, .makeMap t r, ty, pos, after, g⟩ :: rest) a w) : wpList P ops Q (⟨dst, .makeMap t r, ty, pos, after, g⟩ :: rest) a w := h
theorem at_maplen (h : wpList P ops Q (⟨dst, .call { callee := .builtin .len, args := #[x], argTypes := #[t] }, ty, pos, after, g⟩ :: rest) a w) : wpList P ops Q (⟨dst, .call { callee := .builtin .len, args := #[x], argTypes := #[t] }, ty, pos, after, g⟩ :: rest) a w := h
theorem wl_idmade (hgd : Region.wanted (⟨dst, .makeMap t none, ty, pos, after, g⟩ : Oper) (yielded ops a.tmps) = true) (hv : Mem w0 w L R) (k e : TypeId)
   (h : ∀ b w', w0.heap.size ≤ b → Mem w0 w' L R → IdS P k e w' b 0 [] → wpList P ops Q rest (a.put dst (.map (some b))) w') : wpList P ops Q (⟨dst, .makeMap t none, ty, pos, after, g⟩ :: rest) a w := by
 refine wpList_want hgd fun K hK => ?_
 unfold Oper.wp execOp
 simp only [Option.map_none, Sem.run_bind, run_makeMap, Result.andThen_ok, Sem.run_pure]
 exact hK _ _ (h w.heap.size (w.alloc (.map #[] 0)) hv.below.size (hv.new ((Below.refl _ _).alloc (Nat.le_refl _) _)) (IdS.made w P k e))
theorem wl_idlook (hgd : Region.wanted (⟨dst, .lookup t x y false, ty, pos, after, g⟩ : Oper) (yielded ops a.tmps) = true) (hx : a.eval x = .map (some b)) {v : Int} (hy : a.eval y = .int .i64 v) (hM : IdS P k e w b n ids)
   (hk : P.underlying k = some (.int .i64)) (ht : P.underlying t = some (.map k e)) (he : P.underlying e = some .bool) (hz : (zeroValue e).run P w = .ok (.bool false) w) (hv : (Lit.int .i64 v).wf = true) {r : Bool} (hr0 : decide (v ∈ ids) = r)
   (h : wpList P ops Q rest (a.put dst (.bool r)) w) : wpList P ops Q (⟨dst, .lookup t x y false, ty, pos, after, g⟩ :: rest) a w := by
 subst hr0
 refine wpList_want hgd fun K hK => ?_
 have hr := hM.look hk ht he hz hv
 unfold Oper.wp execOp
 simp only [hx, hy, Sem.run_bind, hr, Result.andThen_ok, Sem.run_pure]
 exact hK _ _ h
theorem wl_idlen (hgd : Region.wanted (⟨dst, .call { callee := .builtin .len, args := #[x], argTypes := #[t] }, ty, pos, after, g⟩ : Oper) (yielded ops a.tmps) = true) (hx : a.eval x = .map (some b)) (hM : IdS P k e w b n ids)
   (ht : P.underlying t = some (.map k e)) {m : Nat} (hm : ids.length = m)
   (h : wpList P ops Q rest (a.put dst (.int .i64 m)) w) : wpList P ops Q (⟨dst, .call { callee := .builtin .len, args := #[x], argTypes := #[t] }, ty, pos, after, g⟩ :: rest) a w := by
 subst hm
 refine wpList_want hgd fun K hK => ?_
 have hr := hM.len ht ty
 unfold Oper.wp execOp
 simp only [resolve, invoke, builtin, Sem.run_bind, Sem.run_pure, Result.andThen_ok, List.map_toArray, List.map_cons, List.map_nil, hx, hr]
 exact hK _ _ h
theorem wl_idput (hgd : Region.wanted (⟨dst, .mapUpdate t x y z, ty, pos, after, g⟩ : Oper) (yielded ops a.tmps) = true) (hvM : Mem w0 w L R) (hge : w0.heap.size ≤ b) (hx : a.eval x = .map (some b)) {v : Int} (hy : a.eval y = .int .i64 v) (hzz : a.eval z = .bool true) (hM : IdS P k e w b n ids)
   (hk : P.underlying k = some (.int .i64)) (ht : P.underlying t = some (.map k e)) (he : P.underlying e = some .bool) (hl : n < maxLen) (hv : (Lit.int .i64 v).wf = true) (hnx : v ∉ ids)
   (h : ∀ w', Mem w0 w' L R → IdS P k e w' b (n + 1) (ids ++ [v]) → wpList P ops Q rest (a.put dst undef) w') : wpList P ops Q (⟨dst, .mapUpdate t x y z, ty, pos, after, g⟩ :: rest) a w := by
 obtain ⟨w', r1, r2, r3⟩ := hM.put hk ht he hl hv hnx
 have hm := hvM.turn r3 (fun r e => by cases e; exact ⟨hge, hM.noCells⟩)
 refine wpList_want hgd fun K hK => ?_
 unfold Oper.wp execOp
 simp only [hx, hy, hzz, Sem.run_bind, r1, Result.andThen_ok, Sem.run_pure]
 exact hK _ _ (h w' hm r2)
end
end Go
end
