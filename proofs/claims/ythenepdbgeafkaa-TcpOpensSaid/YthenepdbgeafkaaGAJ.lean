import Derived.Test.YthenepdbgeafkaaBny
import Derived.Test.YthenepdbgeafkaaGAI
set_option linter.unusedSimpArgs false
set_option linter.unusedVariables false
section
/-
 Parts of variables written, in a region walked over Mem.
-/
namespace Go
open Go.RowKit
section
variable {P : Program} {o : Oper} {a : Act}
theorem run_stp (w : World) (ty : TypeId) (x y : Operand) (ho : o.op = .store ty x y) (b off : Nat) (cells : Array Value) (hx : a.eval x = .pointer (some ⟨b, off, none⟩)) (hy : a.eval y = .agg cells) (n : Nat) (hi : (P.info? ty).map (·.size) = some n)
   (hc : cells.size = n) (h1 : cells.all (·.oneCell') = true) (hsoft : w.soft b = true) (hs : off + n ≤ (w.rowD b).size) : ∃ w', (execOp a.eval o).run P w = .ok .skip w' ∧ Wrote w w' b (splice (w.rowD b) off cells) := by
 have e := setCells_row cells.toList w b off hsoft (by simp; omega)
 have ht : w.there b off cells.size := fun j hj => by
   obtain ⟨t, ht⟩ := soft_heap hsoft
   refine ⟨?_, frozen_of_row w b _ _ t ht⟩
   rw [cell_rowD, Array.getElem?_eq_getElem (by omega)]; rfl
 refine ⟨w.setRow b (splice (w.rowD b) off cells), ?_, wrote_setRow hsoft⟩
 unfold execOp
 simp only [ho, hx, hy, Instr.storeAt, Instr.sureAddr, Sem.run_bind, Sem.run_pure, Result.andThen_ok, run_storeVar_mid w b off ty cells ht (by rw [hc]; exact hi) h1, e]
end
namespace Bny
open Go.RowKit Go.Any
section
variable {P : Program} {ops : Array Oper} {β : Base} {S : Nat → Any.Stat} {D : Nat → Kind} {Q : Act → Env → Prop} {k : Nat} {rest : List Oper} {a : Act} {E : Env}
variable {dst : Option Tmp} {ty T : TypeId} {pos : String} {after : Array Edge} {g : Option (Nat × Bool)} {x y : Operand}
theorem at_ecallf {f : FuncId} {xs : Array Operand} {ts : Array TypeId} (h : wpE P ops β S D Q k (⟨dst, .call { callee := .value (.func f), args := xs, argTypes := ts }, ty, pos, after, g⟩ :: rest) a E) : wpE P ops β S D Q k (⟨dst, .call { callee := .value (.func f), args := xs, argTypes := ts }, ty, pos, after, g⟩ :: rest) a E := h
theorem E_putp {i B off : Nat} {c0 c : Array Value} (hw : Region.wanted (⟨dst, .store T x y, ty, pos, after, g⟩ : Oper) (yielded ops a.tmps) = true) (hD : D k = .put) (hS : (S k).write = some i) (hx : a.eval x = .pointer (some ⟨B, off, none⟩)) (hE : E i = .row B c0)
   (hy : a.eval y = .agg c) (n : Nat) (hi : (P.info? T).map (·.size) = some n) (hc : c.size = n) (h0 : off + n ≤ c0.size) (h1 : c.all (·.oneCell') = true) {c' : Array Value} (hs : splice c0 off c = c')
   (hk : wpE P ops β S D Q (k + 1) rest (a.put dst undef) (E.put i (.row B c'))) : wpE P ops β S D Q k (⟨dst, .store T x y, ty, pos, after, g⟩ :: rest) a E :=
 E_put hw hD hS rfl hx hE (by rw [hy]; exact hs) (fun w hr hs' => by
   obtain ⟨w', r1, r2⟩ := run_stp (P := P) (a := a) (o := ⟨dst, .store T x y, ty, pos, after, g⟩) w T x y rfl B off c hx hy n hi hc h1 hs' (by rw [hr]; exact h0)
   rw [hr, hs] at r2
   exact ⟨w', r1, r2⟩) hk
end
end Bny
end Go
end

section
/-
 Slices of the call's own that stand wherever in their row: parts taken off their head, others appended behind. No program in sight.
-/
namespace Go
open Go.RowKit
def RowO (k : Nat) (v : Value) (c : List Value) (x : Nat × Array Value) : Prop :=
 ∃ o n cap, v = .slice (some ⟨x.1, o, none⟩) n cap ∧ c.length = n * k ∧ n ≤ cap ∧ cap ≤ maxLen ∧ x.2.size = o + cap * k ∧ (x.2.toList.drop o).take (n * k) = c
def OwnQ (k : Nat) (v : Value) (c : List Value) (O : LV) : Prop := (∃ ao, v = .slice ao 0 0 ∧ c = [] ∧ O = []) ∨ ∃ x, RowO k v c x ∧ O = [x]
theorem AppRow.rowO {k : Nat} {v : Value} {c : List Value} {x : Nat × Array Value} (h : AppRow v k c x) : RowO k v c x := by
 obtain ⟨n, cap, rfl, h1, h2, h3, h4, h5⟩ := h
 exact ⟨0, n, cap, rfl, h1, h2, h3, by omega, by simpa using h5⟩
theorem OwnL.q {k : Nat} {v : Value} {c : List Value} {O : LV} (h : OwnL k v c O) : OwnQ k v c O := by
 rcases h with ⟨h1, h2, h3⟩ | ⟨x, h1, h2⟩
 · exact .inl ⟨none, h1, h2, h3⟩
 · exact .inr ⟨x, h1.rowO, h2⟩
theorem OwnQ.slice {k : Nat} {v : Value} {c : List Value} {O : LV} (h : OwnQ k v c O) : ∃ ao n cap, v = .slice ao n cap ∧ c.length = n * k := by
 rcases h with ⟨ao, rfl, rfl, _⟩ | ⟨x, ⟨o, n, cap, rfl, h, _⟩, _⟩
 · exact ⟨ao, 0, 0, rfl, by simp⟩
 · exact ⟨_, n, cap, rfl, h⟩
theorem RowO.rd {k : Nat} {v : Value} {c : List Value} {w : World} {x : Nat × Array Value} (h : RowO k v c x) (hr : w.rowD x.1 = x.2) (hs : w.soft x.1 = true) : Rd w k v c := by
 obtain ⟨o, n, cap, rfl, h1, h2, h3, h4, h5⟩ := h
 refine ⟨some ⟨x.1, o, none⟩, n, cap, rfl, h1, h2, h3, fun h => (by cases h), fun i hi => ⟨x.1, o, rfl, soft_lt hs, ?_⟩⟩
 rw [cell_rowD, hr, ← h5, List.getElem?_take, if_pos (by omega), List.getElem?_drop, Array.getElem?_toList]
theorem Rd.none0 (w : World) (k : Nat) (ao : Option Addr) : Rd w k (.slice ao 0 0) [] := ⟨ao, 0, 0, rfl, by simp, Nat.le_refl _, Nat.zero_le _, fun _ => ⟨rfl, rfl⟩, fun i hi => absurd hi (Nat.not_lt_zero _)⟩
theorem OwnQ.rd {w0 w : World} {A B O : LV} {R : LR} {k : Nat} {v : Value} {c : List Value} (h : OwnQ k v c O) (hv : Mem w0 w (A ++ O ++ B) R) : Rd w k v c := by
 rcases h with ⟨ao, rfl, rfl, rfl⟩ | ⟨x, hx, rfl⟩
 · exact Rd.none0 w k ao
 · have := hv.vars.rows x (by simp)
   exact hx.rd this.1 this.2.1
theorem OwnQ.yield {w0 w : World} {A B O : LV} {R : LR} {k : Nat} {v : Value} {c : List Value} (h : OwnQ k v c O) (hv : Mem w0 w (A ++ O ++ B) R) : Mem w0 w (A ++ B) ((k, v, c) :: R) := by
 have hr := h.rd hv
 rcases h with ⟨ao, rfl, rfl, rfl⟩ | ⟨x, ⟨o, n, cap, rfl, _⟩, rfl⟩
 · rw [List.append_nil] at hv
   exact hv.add hr fun hc => absurd rfl hc
 · have ha := (hv.perm (perm_mid A B x)).vars.apart
   refine (hv.keep (L' := A ++ B) (by rw [List.append_assoc]; exact List.Sublist.append (List.Sublist.refl _) (List.sublist_append_right _ _))).add hr fun hc b o' n' cap' e p hp => ?_
   cases e
   rw [List.map_cons, List.nodup_cons] at ha
   exact fun e => ha.1 (by rw [← e]; exact List.mem_map_of_mem hp)
theorem OwnQ.tail {w0 w : World} {A B O : LV} {R : LR} {k : Nat} {ao : Option Addr} {n cap : Nat} {c : List Value} (h : OwnQ k (.slice ao n cap) c O) (hv : Mem w0 w (A ++ O ++ B) R) (hn : 1 ≤ n) : ∃ O', OwnQ k (sliced ao 1 n cap k) (c.drop k) O' ∧ Mem w0 w (A ++ O' ++ B) R := by
 rcases h with ⟨ao', e, rfl, rfl⟩ | ⟨x, ⟨o, n', cap', e, h1, h2, h3, h4, h5⟩, rfl⟩
 · cases e; omega
 · cases e
   by_cases h0 : cap = 1
   · subst h0
     have hn1 : n = 1 := by omega
     subst hn1
     refine ⟨[], .inl ⟨some ⟨x.1, o, none⟩, rfl, ?_, rfl⟩, hv.keep (by simp)⟩
     rw [List.drop_eq_nil_iff]; omega
   · refine ⟨[x], .inr ⟨x, ⟨o + k, n - 1, cap - 1, ?_, ?_, by omega, by omega, ?_, ?_⟩, rfl⟩, hv⟩
     · unfold sliced
       rw [if_neg h0, Option.map_some, Addr.add_none, Nat.one_mul]
     · rw [List.length_drop, h1, Nat.sub_mul, Nat.one_mul]
     · rw [h4, Nat.sub_mul, Nat.one_mul]
       have : k ≤ cap * k := by rw [← Nat.one_mul k]; exact Nat.mul_le_mul (by omega) (by omega)
       omega
     · rw [← h5, List.drop_take, List.drop_drop, Nat.sub_mul, Nat.one_mul]
section
variable {P : Program} {w w0 : World} {e : TypeId} {k : Nat} {v : Value} {c : List Value}
theorem run_append_roomO (t ty e t' : TypeId) (i : TypeInfo) (ht : P.underlying t = some (.slice e)) (hi : P.info? e = some i)
   (g o sLen sCap : Nat) (cur : Array Value) (hg : w.heap[g]? = some (.cells cur t' (0, 0)))
   (a : Addr) (m c : Nat) (news : List Value) (hl : news.length = m * i.size) (hnews : ∀ j u, news[j]? = some u → w.cell? (a.add j) = some u) (h1 : ∀ u ∈ news, u.oneCell' = true)
   (hroom : sLen + m ≤ sCap) (hfit : o + sLen * i.size + news.length ≤ cur.size) :
   (Builtin.append_ #[t, t] ty #[.slice (some ⟨g, o, none⟩) sLen sCap, .slice (some a) m c]).run P w =
     .ok (.slice (some ⟨g, o, none⟩) (sLen + m) sCap) (w.setRow g (cur.toList.take (o + sLen * i.size) ++ news ++ cur.toList.drop (o + sLen * i.size + news.length)).toArray) := by
 have hf := run_firstCells_some (P := P) w i.size m a m c news hl hnews
 have hst := run_storeCells_at P g (o + sLen * i.size) t' news 0 cur w hg (by simpa using hfit) h1
 simp only [Nat.add_zero] at hst
 simp [Builtin.append_, run_underlying ht, sizeOf, typeInfo, hi, Builtin.lenOf, hroom, hf, Addr.add_lit, hst]
theorem run_app_rowO (t ty : TypeId) (i : TypeInfo) (z : Value) (bytes : Nat) (ht : P.underlying t = some (.slice e)) (hi : P.info? e = some i) (hz : i.zero = some z)
   (hsize : i.size = k) (hby : i.bytes = bytes) (hzs : z.cells.size = k) (hk : 0 < k) {x : Nat × Array Value} (hx : RowO k v c x) (hr : w.rowD x.1 = x.2) (hs : w.soft x.1 = true)
   {u : Value} {news : List Value} (hu : Rd w k u news) (h1 : ∀ x ∈ news, x.oneCell' = true)
   (h63 : (c.length + news.length) / k ≤ maxLen) (hbytes : (c.length + news.length) / k * bytes ≤ 140737488355328) :
   ∃ v' w' x', (Builtin.append_ #[t, t] ty #[v, u]).run P w = .ok v' w' ∧ RowO k v' (c ++ news) x' ∧ ((x'.1 = x.1 ∧ Wrote w w' x.1 x'.2) ∨ (x'.1 = w.heap.size ∧ New w w' ∧ w'.rowD x'.1 = x'.2 ∧ w'.soft x'.1 = true)) := by
 obtain ⟨o, n, cap, rfl, g1, g2, g3, g4, g5⟩ := hx
 obtain ⟨ao, m, mc, rfl, hl, hmc, hcm, hnone, hcell⟩ := hu
 have hnm : (c.length + news.length) / k = n + m := by rw [g1, hl, ← Nat.add_mul, Nat.mul_div_cancel _ hk]
 rw [hnm] at h63 hbytes
 obtain ⟨tt, hh⟩ := soft_heap hs
 rw [hr] at hh
 have hlx : x.2.toList.length = o + cap * k := by simpa using g4
 cases ao with
 | none =>
   obtain ⟨rfl, rfl⟩ := hnone rfl
   have hn0 : news = [] := List.length_eq_zero_iff.1 (by omega)
   subst hn0
   refine ⟨.slice (some ⟨x.1, o, none⟩) n cap, w, x, ?_, ⟨o, n, cap, rfl, by simpa using g1, g2, g3, g4, by simpa using g5⟩, .inl ⟨rfl, ⟨hr, hs, fun _ _ => rfl, rfl, rfl, rfl, rfl⟩⟩⟩
   simp [Builtin.append_, run_underlying ht, sizeOf, typeInfo, hi, Builtin.lenOf, Builtin.firstCells, g2, storeCells]
 | some a =>
   have hnews : ∀ j x, news[j]? = some x → w.cell? (a.add j) = some x := fun j x hj => by
     have hjl := (List.getElem?_eq_some_iff.1 hj).1
     obtain ⟨b, o', e1, _, e2⟩ := hcell j hjl
     cases e1
     rw [Addr.add_none, e2]; exact hj
   have hlen : (c ++ news).length = (n + m) * k := by rw [List.length_append, g1, hl, Nat.add_mul]
   by_cases hroom : n + m ≤ cap
   · have hmul : n * k + news.length ≤ cap * k := by rw [hl, ← Nat.add_mul]; exact Nat.mul_le_mul_right _ hroom
     have hfit : o + n * k + news.length ≤ x.2.size := by rw [g4]; omega
     have r := run_append_roomO (P := P) (w := w) t ty e tt i ht hi x.1 o n cap x.2 hh a m mc news (by rw [hsize]; exact hl) hnews h1 hroom (by rw [hsize]; exact hfit)
     rw [hsize] at r
     refine ⟨_, _, (x.1, (x.2.toList.take (o + n * k) ++ news ++ x.2.toList.drop (o + n * k + news.length)).toArray), r, ⟨o, n + m, cap, rfl, hlen, hroom, g3, ?_, ?_⟩, .inl ⟨rfl, wrote_setRow hs⟩⟩
     · simp only [List.size_toArray, List.length_append, List.length_take, List.length_drop, hlx]
       omega
     · simp only
       have e1 : (x.2.toList.take (o + n * k)).drop o = c := by rw [← g5, List.drop_take]; congr 1; omega
       have e2 : o ≤ (x.2.toList.take (o + n * k)).length := by rw [List.length_take, hlx]; omega
       rw [List.append_assoc, List.drop_append_of_le_length e2, e1, ← List.append_assoc, ← hlen]
       exact List.take_left
   · have holds : ∀ j u, c[j]? = some u → w.cell? (Addr.add ⟨x.1, o, none⟩ j) = some u := fun j u hj => by
       have hjl := (List.getElem?_eq_some_iff.1 hj).1
       rw [Addr.add_none, cell_rowD, hr]
       rw [← g5, List.getElem?_take, if_pos (by omega), List.getElem?_drop, Array.getElem?_toList] at hj
       exact hj
     have q1 := run_append_grow (P := P) w t ty e i z ht hi hz ⟨x.1, o, none⟩ n cap c (by rw [hsize]; exact g1) holds a m mc news (by rw [hsize]; exact hl) hnews (by omega) (by unfold maxLen at h63; omega) (growslice_fits (by omega) (by rw [hby]; exact hbytes))
     have hge := grownCap_ge w (n + m) cap e
     have hcm := grownCap_le_maxLen w (n + m) cap e h63
     refine ⟨_, _, (w.heap.size, c.toArray ++ news.toArray ++ Builtin.zeroCells z.cells (grownCap w (n + m) cap e - (n + m))), q1, ⟨0, n + m, grownCap w (n + m) cap e, rfl, hlen, hge, hcm, ?_, ?_⟩, .inr ⟨rfl, ?_, ?_, ?_⟩⟩
     · simp only [Array.size_append, List.size_toArray, size_zeroCells, hzs, g1, hl, ← Nat.add_mul, Nat.zero_add]
       congr 1
       omega
     · simp only [Array.toList_append, List.append_assoc, List.drop_zero]
       rw [← List.append_assoc, ← hlen]
       exact List.take_left
     · have hb : Below w.heap.size w w.drew := ⟨rfl, rfl, rfl, Nat.le_refl _, fun _ _ => rfl⟩
       exact hb.alloc (Nat.le_refl _) _
     · exact rowD_alloc_at w.drew _ _ _ rfl
     · exact soft_alloc_at w.drew _ _ _ rfl
theorem run_app_zero (t ty : TypeId) (i : TypeInfo) (z : Value) (bytes : Nat) (ht : P.underlying t = some (.slice e)) (hi : P.info? e = some i) (hz : i.zero = some z)
   (hsize : i.size = k) (hby : i.bytes = bytes) (hzs : z.cells.size = k) (hk : 0 < k) (a0 : Option Addr)
   {u : Value} {news : List Value} (hu : Rd w k u news) (h1 : ∀ x ∈ news, x.oneCell' = true)
   (h63 : news.length / k ≤ maxLen) (hbytes : news.length / k * bytes ≤ 140737488355328) :
   ∃ v' w', (Builtin.append_ #[t, t] ty #[.slice a0 0 0, u]).run P w = .ok v' w' ∧ New w w' ∧ ((∃ ao, v' = .slice ao 0 0 ∧ news = []) ∨ ∃ x', RowO k v' news x' ∧ w.heap.size ≤ x'.1 ∧ w'.rowD x'.1 = x'.2 ∧ w'.soft x'.1 = true) := by
 cases a0 with
 | none =>
   obtain ⟨v', w', r1, r2, r3⟩ := run_app_nil (P := P) (w := w) t ty i z bytes ht hi hz hsize hby hzs hk hu h1 h63 hbytes
   refine ⟨v', w', r1, r2, ?_⟩
   rcases r3 with ⟨e1, h0⟩ | ⟨x', g1, g2⟩
   · exact .inl ⟨none, e1, h0⟩
   · exact .inr ⟨x', g1.rowO, g2⟩
 | some a0 =>
   obtain ⟨ao, m, mc, rfl, hl, hmc, hcm, hnone, hcell⟩ := hu
   have hnm : news.length / k = m := by rw [hl, Nat.mul_div_cancel _ hk]
   rw [hnm] at h63 hbytes
   by_cases hm : m = 0
   · subst hm
     have hn0 : news = [] := List.length_eq_zero_iff.1 (by omega)
     subst hn0
     refine ⟨.slice (some a0) 0 0, w, ?_, ⟨rfl, rfl, rfl, Nat.le_refl _, fun _ _ => rfl⟩, .inl ⟨some a0, rfl, rfl⟩⟩
     cases ao with
     | none => simp [Builtin.append_, run_underlying ht, sizeOf, typeInfo, hi, Builtin.lenOf, Builtin.firstCells, storeCells]
     | some a =>
       have hf := run_firstCells_some (P := P) w i.size 0 a 0 mc [] (by simp) (fun j u hj => by cases hj)
       simp [Builtin.append_, run_underlying ht, sizeOf, typeInfo, hi, Builtin.lenOf, hf, storeCells]
   · cases ao with
     | none => exact absurd (hnone rfl).1 hm
     | some a =>
       have hnews : ∀ j x, news[j]? = some x → w.cell? (a.add j) = some x := fun j x hj => by
         have hjl := (List.getElem?_eq_some_iff.1 hj).1
         obtain ⟨b, o', e1, _, e2⟩ := hcell j hjl
         cases e1
         rw [Addr.add_none, e2]; exact hj
       have q1 := run_append_grow (P := P) w t ty e i z ht hi hz a0 0 0 [] (by simp) (fun j u hj => by cases hj) a m mc news (by rw [hsize]; exact hl) hnews (by omega) (by unfold maxLen at h63; omega) (growslice_fits (by omega) (by rw [hby]; simpa using hbytes))
       rw [Nat.zero_add] at q1
       have hge := grownCap_ge w m 0 e
       have hcm := grownCap_le_maxLen w m 0 e h63
       refine ⟨_, _, q1, ?_, .inr ⟨(w.heap.size, #[] ++ news.toArray ++ Builtin.zeroCells z.cells (grownCap w m 0 e - m)), ⟨0, m, grownCap w m 0 e, rfl, hl, hge, hcm, ?_, ?_⟩, Nat.le_refl _, ?_, ?_⟩⟩
       · have hb : Below w.heap.size w w.drew := ⟨rfl, rfl, rfl, Nat.le_refl _, fun _ _ => rfl⟩
         exact hb.alloc (Nat.le_refl _) _
       · simp only [Array.size_append, List.size_toArray, size_zeroCells, hzs, hl, ← Nat.add_mul, Nat.zero_add, List.length_nil]
         congr 1
         omega
       · simp only [Array.toList_append, List.drop_zero, List.nil_append]
         rw [← hl]
         exact List.take_left
       · exact rowD_alloc_at w.drew _ _ _ rfl
       · exact soft_alloc_at w.drew _ _ _ rfl
end
section
variable {P : Program} {ops : Array Oper} {rest : List Oper} {a : Act} {w0 w : World} {Q : Exit → Act → World → Prop} {A B O : LV} {R : LR}
variable {dst : Option Tmp} {ty t e T : TypeId} {pos : String} {after : Array Edge} {g : Option (Nat × Bool)} {x y xl : Operand} {k : Nat}
theorem wl_tailQ (hgd : Region.wanted (⟨dst, .slice T x (some xl) none none, ty, pos, after, g⟩ : Oper) (yielded ops a.tmps) = true) {ao : Option Addr} {n cap : Nat} {c : List Value} (hx : a.eval x = .slice ao n cap) (hO : OwnQ k (.slice ao n cap) c O) (hv : Mem w0 w (A ++ O ++ B) R) (ht : P.underlying T = some (.slice e)) (hi0 : (P.info? e).map (·.size) = some k)
   (hl : a.eval xl = .int .i64 1) (h1 : 1 ≤ n)
   (hk : ∀ v' O', OwnQ k v' (c.drop k) O' → Mem w0 w (A ++ O' ++ B) R → wpList P ops Q rest (a.put dst v') w) : wpList P ops Q (⟨dst, .slice T x (some xl) none none, ty, pos, after, g⟩ :: rest) a w := by
 obtain ⟨O', q1, q2⟩ := hO.tail hv h1
 have hcap : n ≤ cap := by
   rcases hO with ⟨_, e, _⟩ | ⟨_, ⟨_, _, _, e, _, h2, _⟩, _⟩
   · cases e; exact Nat.le_refl _
   · cases e; exact h2
 refine wpList_want hgd fun K hK => ?_
 have hr := run_part (w := w) (ao := ao) (n := n) (cap := cap) ht hi0 (some (.int .i64 ((1 : Nat) : Int))) none none 1 n cap (bounds_l h1)
 unfold Oper.wp execOp
 simp only [Int.natCast_one] at hr
 simp only [Sem.run_bind, hx, hl, Option.map_some, Option.map_none, hr, Result.andThen_ok, Sem.run_pure]
 exact hK _ _ (hk _ _ q1 q2)
end
end Go
end

section
/-
 Own slices that stand wherever in their row, in a region that draws its order. No program in sight.
-/
namespace Go
namespace Bny
open Go.RowKit Go.Any
def QS (kk : Nat) (c : List Value) (v : Value) (sl : Slot) : Prop := (∃ ao, v = .slice ao 0 0 ∧ c = [] ∧ sl = .none) ∨ ∃ x : Nat × Array Value, RowO kk v c x ∧ sl = .row x.1 x.2
theorem QS.own {kk : Nat} {c : List Value} {v : Value} {sl : Slot} (h : QS kk c v sl) : OwnQ kk v c sl.rows := by
 rcases h with ⟨ao, h1, h2, rfl⟩ | ⟨x, h1, rfl⟩
 · exact .inl ⟨ao, h1, h2, rfl⟩
 · exact .inr ⟨x, h1, rfl⟩
theorem QS.of {kk : Nat} {c : List Value} {v : Value} {O : LV} (h : OwnQ kk v c O) : ∃ sl, QS kk c v sl ∧ sl.rows = O := by
 rcases h with ⟨ao, h1, h2, rfl⟩ | ⟨x, h1, rfl⟩
 · exact ⟨.none, .inl ⟨ao, h1, h2, rfl⟩, rfl⟩
 · exact ⟨.row x.1 x.2, .inr ⟨x, h1, rfl⟩, rfl⟩
theorem QS.reads {kk : Nat} {c : List Value} {v : Value} {sl : Slot} (h : QS kk c v sl) : sl.reads = [] := by
 rcases h with ⟨ao, h1, h2, rfl⟩ | ⟨x, h1, rfl⟩ <;> rfl
theorem QS.some {kk n : Nat} {c : List Value} (h : c.length = n * kk) (hn : n ≤ maxLen) : ∃ v sl, QS kk c v sl := by
 obtain ⟨v, x, hr⟩ := AppRow.some h hn
 exact ⟨v, .row x.1 x.2, .inr ⟨x, hr.rowO, rfl⟩⟩
theorem Env.put_id (E : Env) (i : Nat) (x : Slot) (h : E i = x) : E.put i x = E := by
 funext j
 unfold Env.put
 split
 · rename_i e; rw [e, h]
 · rfl
section
variable {P : Program} {ops : Array Oper} {β : Base} {S : Nat → Any.Stat} {D : Nat → Kind} {Q : Act → Env → Prop} {k : Nat} {rest : List Oper} {a : Act} {E : Env}
variable {dst : Option Tmp} {ty t e T : TypeId} {pos : String} {after : Array Edge} {g : Option (Nat × Bool)} {x y : Operand}
theorem at_eappQ (h : wpE P ops β S D Q k (⟨dst, .call { callee := .builtin .append, args := #[x, y], argTypes := #[t, t] }, ty, pos, after, g⟩ :: rest) a E) : wpE P ops β S D Q k (⟨dst, .call { callee := .builtin .append, args := #[x, y], argTypes := #[t, t] }, ty, pos, after, g⟩ :: rest) a E := h
theorem E_appQ {i : Nat} {sl : Slot} {v u : Value} {kk : Nat} {c news : List Value} (hw : Region.wanted (⟨dst, .call { callee := .builtin .append, args := #[x, y], argTypes := #[t, t] }, ty, pos, after, g⟩ : Oper) (yielded ops a.tmps) = true)
   (hD : D k = .slot (QS kk (c ++ news))) (hS : (S k).write = some i) (hx : a.eval x = v) (hE : E i = sl) (hQ : QS kk c v sl)
   (hy : a.eval y = u) (hr : Known β E (S k).keys (kk, u, news))
   (z : Value) (bytes : Nat) (ht : P.underlying t = some (.slice e)) (hi : (P.info? e).map (fun i => (i.zero, i.size, i.bytes)) = some (some z, kk, bytes)) (hz : z.cells.size = kk) (hk0 : 0 < kk)
   (hl : ∃ m, news.length = m * kk) (h1 : ∀ x ∈ news, x.oneCell' = true) (h63 : (c.length + news.length) / kk ≤ maxLen) (hbytes : (c.length + news.length) / kk * bytes ≤ 140737488355328)
   (hk : ∀ v' sl', QS kk (c ++ news) v' sl' → wpE P ops β S D Q (k + 1) rest (a.put dst v') (E.put i sl')) : wpE P ops β S D Q k (⟨dst, .call { callee := .builtin .append, args := #[x, y], argTypes := #[t, t] }, ty, pos, after, g⟩ :: rest) a E := by
 obtain ⟨i0, hi1, hiz, hsz, hb⟩ := info_parts hi
 have hmem : i ∈ (S k).keys := by unfold Any.Stat.keys; rw [hS]; simp
 refine E_slot hw hD hS ?_ (fun E' he w hv => ?_) hk
 · obtain ⟨m, hm⟩ := hl
   obtain ⟨_, n, _, _, hc⟩ := hQ.own.slice
   have hl2 : (c ++ news).length = (n + m) * kk := by rw [List.length_append, hc, hm, Nat.add_mul]
   have : (c.length + news.length) / kk = n + m := by rw [hc, hm, ← Nat.add_mul, Nat.mul_div_cancel _ hk0]
   exact QS.some hl2 (by omega)
 · have hE' : E' i = sl := by rw [he i hmem]; exact hE
   have hu : Rd w kk u news := hr.rd he hv
   rcases hQ with ⟨a0, rfl, rfl, rfl⟩ | ⟨x0, hrow, rfl⟩
   · obtain ⟨v', w', r1, r2, r3⟩ := run_app_zero (P := P) (w := w) t ty i0 z bytes ht hi1 hiz hsz hb hz hk0 a0 hu h1 (by simpa using h63) (by simpa using hbytes)
     unfold res execOp
     simp only [resolve, invoke, builtin, Sem.run_bind, Sem.run_pure, Result.andThen_ok, List.map_toArray, List.map_cons, List.map_nil, hx, hy, r1]
     rcases r3 with ⟨ao, e1, h0⟩ | ⟨x', g1, g2, g3, g4⟩
     · refine ⟨.none, .inl ⟨ao, e1, by rw [h0]; rfl, rfl⟩, ?_⟩
       rw [Env.put_id E' i .none hE']
       exact hv.new r2
     · exact ⟨.row x'.1 x'.2, .inr ⟨x', by rw [List.nil_append]; exact g1, rfl⟩, hv.lay g2 r2 g3 g4⟩
   · obtain ⟨q1, q2⟩ := hv.row hE'
     obtain ⟨v', w', x', r1, r2, r3⟩ := run_app_rowO (P := P) (w := w) t ty i0 z bytes ht hi1 hiz hsz hb hz hk0 hrow q1 q2 hu h1 h63 hbytes
     unfold res execOp
     simp only [resolve, invoke, builtin, Sem.run_bind, Sem.run_pure, Result.andThen_ok, List.map_toArray, List.map_cons, List.map_nil, hx, hy, r1]
     refine ⟨.row x'.1 x'.2, .inr ⟨x', r2, rfl⟩, ?_⟩
     rcases r3 with ⟨e1, hwr⟩ | ⟨e1, hn, hr, hs⟩
     · have := hv.fill (i := i) (B := x0.1) (c0 := x0.2) hE' hwr
       rw [← e1] at this
       exact this
     · exact hv.lay (Nat.le_of_eq e1.symm) hn hr hs
end
def Env.ofS (L : List Slot) : Env := fun k => if k < 1000 then .none else L.getD (k - 1000) .none
theorem rows_ofS (L : List Slot) : rowsE (Env.ofS L) ((List.range L.length).map (1000 + ·)) = L.flatMap Slot.rows := by
 have key : ∀ (n : Nat) (l : List Slot), (∀ j, j < l.length → L[n + j]? = l[j]?) → rowsE (Env.ofS L) ((List.range l.length).map fun j => 1000 + (n + j)) = l.flatMap Slot.rows := by
   intro n l
   induction l generalizing n with
   | nil => intro _; rfl
   | cons x r ih =>
     intro h
     rw [List.length_cons, List.range_succ_eq_map, List.map_cons, List.map_map]
     show ((Env.ofS L) (1000 + (n + 0))).rows ++ rowsE (Env.ofS L) _ = _
     have e0 : Env.ofS L (1000 + (n + 0)) = x := by
       unfold Env.ofS
       rw [if_neg (by omega), show 1000 + (n + 0) - 1000 = n + 0 from by omega, List.getD_eq_getElem?_getD, h 0 (by simp)]
       rfl
     have e1 := ih (n + 1) (fun j hj => by have := h (j + 1) (by simpa using hj); rw [show n + 1 + j = n + (j + 1) from by omega, this]; simp)
     rw [e0]
     have e2 : ((fun j => 1000 + (n + j)) ∘ Nat.succ) = fun j => 1000 + (n + 1 + j) := by funext j; show 1000 + (n + (j + 1)) = _; omega
     rw [e2, e1]
     rfl
 have := key 0 L (fun j _ => by rw [Nat.zero_add])
 simpa using this
theorem VE.startS {w0 w : World} {L1 : List Slot} {L : LV} {R : LR} (h : Mem w0 w (L1.flatMap Slot.rows ++ L) R) (hR : ∀ s ∈ L1, s.reads = []) : VE ⟨w0, L, R⟩ (Env.ofS L1) w := by
 refine ⟨(List.range L1.length).map (1000 + ·), ?_, fun j hj => ?_, ?_⟩
 · exact List.Pairwise.map _ (fun a b (hab : a ≠ b) (e : 1000 + a = 1000 + b) => hab (by omega)) List.nodup_range
 · unfold Env.ofS
   split
   · rfl
   · have : ¬ j - 1000 < L1.length := fun hlt => hj (List.mem_map.2 ⟨j - 1000, List.mem_range.2 hlt, by omega⟩)
     rw [List.getD_eq_getElem?_getD, List.getElem?_eq_none (by omega)]; rfl
 · rw [rows_ofS]
   refine h.keepR fun x hx => ?_
   rcases List.mem_append.1 hx with hx | hx
   · exfalso
     obtain ⟨k, _, hk⟩ := (mem_reads (i := 0)).1 hx
     unfold Env.ofS at hk
     split at hk
     · exact List.not_mem_nil hk
     · rw [List.getD_eq_getElem?_getD] at hk
       cases hq : L1[k - 1000]? with
       | none => rw [hq] at hk; exact List.not_mem_nil hk
       | some s =>
         rw [hq] at hk
         have hk : x ∈ s.reads := hk
         rw [hR s (List.mem_of_getElem? hq)] at hk
         exact List.not_mem_nil hk
   · exact hx
theorem wp_region_walkS {P : Program} {id : Nat} {Q : Exit → Act → World → Prop} {a : Act} {w0 w : World} (L1 : List Slot) (L : LV) {R : LR} {l : List Oper} (ss : List Any.Stat) (ms : List Mark) (hm : P.follows .mixedOrders = true)
   (hB : lexFB .any l.toArray (fun i => ss.getD i ⟨[], none⟩) = true) (hv : Mem w0 w (L1.flatMap Slot.rows ++ L) R) (hR : ∀ s ∈ L1, s.reads = [])
   (h : someVals l.length fun vs => wpE P l.toArray ⟨w0, L, R⟩ (fun i => ss.getD i ⟨[], none⟩) (kindOf ms vs) (fun a' E' => ∀ w', VE ⟨w0, L, R⟩ E' w' → Q .normal a' w') 0 l a (Env.ofS L1)) : (Code.region id l.toArray true).wp P Q a w := by
 refine of_someVals _ (fun vs h => ?_) h
 have hB' := hB
 simp only [lexFB, Bool.and_eq_true] at hB'
 have hC := VE.startS (L1 := L1) (hv.new (w' := w.drewN 1) ⟨rfl, rfl, rfl, Nat.le_refl _, fun _ _ => rfl⟩) hR
 refine wp_region_any hm (wpAny_of_F ⟨w0, L, R⟩ (fun i => ss.getD i ⟨[], none⟩) (kindOf ms vs) (Q := fun a' E' => ∀ w', VE ⟨w0, L, R⟩ E' w' → Q .normal a' w') (fun _ _ w' hw' h => h w' hw') _ _ _ (Env.ofS L1) _ hC ?_)
 have hsz : l.toArray.size = l.length := by simp
 have hlx := hB'.2
 rw [hsz] at hlx
 have := wpAnyF_lex (md := .any) ⟨w0, L, R⟩ (fun i => ss.getD i ⟨[], none⟩) (kindOf ms vs) hB'.1 l.length 0 l (Array.replicate l.length false) a (Env.ofS L1) rfl (fun i => by simp) hlx h
 simpa using this
end Bny
end Go
end
