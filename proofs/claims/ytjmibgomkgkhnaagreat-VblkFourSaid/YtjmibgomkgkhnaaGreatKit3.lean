/-
 More rules: a box and a build in a region that draws its order; a call of a function value. No program in sight.
-/
import Derived.Test.YtjmibgomkgkhnaaGreatAnyA
import Derived.Test.YtjmibgomkgkhnaaGreatMem
import Derived.Laws.Tables
import Derived.Shelf.Abstract
set_option linter.unusedVariables false
set_option linter.unusedSimpArgs false
namespace Go
open Go.Proofs (Enters enters_of)
section
variable {P : Program} {ops : Array Oper} {rest : List Oper} {a : Act} {w : World} {Q : Exit → Act → World → Prop}
variable {dst : Option Tmp} {ty : TypeId} {pos : String} {after : Array Edge} {g : Option (Nat × Bool)} {x : Operand} {xs : Array Operand} {ts : Array TypeId}
theorem run_callv {f : FuncId} {cap : Array Value} (hf : Enters P f) (hx : a.eval x = .func (.func f) #[] cap) (vs : List Value) (hv : xs.toList.map a.eval = vs) (w : World) :
   (execOp a.eval (⟨dst, .call { callee := .value x, args := xs, argTypes := ts }, ty, pos, after, g⟩ : Oper)).run P w = .ok (.enter f (vs.toArray ++ cap)) w := by
 have e : xs.map a.eval = vs.toArray := by
   apply Array.toList_inj.1
   rw [Array.toList_map, hv]
 unfold execOp
 simp only [resolve, hx, Deferred.ofValue, Sem.run_bind, Sem.run_pure, Result.andThen_ok, invoke]
 have := hf (vs.toArray ++ cap) w
 rw [e]
 have e2 : (#[] : Array Value) ++ vs.toArray = vs.toArray := by simp
 rw [e2]
 exact this
theorem at_call (h : wpList P ops Q (⟨dst, .call { callee := .value x, args := xs, argTypes := ts }, ty, pos, after, g⟩ :: rest) a w) : wpList P ops Q (⟨dst, .call { callee := .value x, args := xs, argTypes := ts }, ty, pos, after, g⟩ :: rest) a w := h
theorem wl_callv {f : FuncId} {cap : Array Value} {R : Ending → World → Prop} (hgd : Region.wanted (⟨dst, .call { callee := .value x, args := xs, argTypes := ts }, ty, pos, after, g⟩ : Oper) (yielded ops a.tmps) = true)
   (hf : Enters P f) (hx : a.eval x = .func (.func f) #[] cap) (vs : List Value) (hv : xs.toList.map a.eval = vs) (hc : Calls P f (vs.toArray ++ cap) w R)
   (h : ∀ e w', R e w' → ∃ v, e = .returned v ∧ wpList P ops Q rest (a.put dst v) w') : wpList P ops Q (⟨dst, .call { callee := .value x, args := xs, argTypes := ts }, ty, pos, after, g⟩ :: rest) a w := by
 refine wpList_want hgd fun K hK => ?_
 refine Any.wp_of_res (R := fun v w' => wpList P ops Q rest (a.put dst v) w') ?_ (fun v w' h => hK _ _ h)
 unfold Any.res
 rw [run_callv hf hx vs hv w]
 exact hc.mono fun e w' hr => by
   obtain ⟨v, h1, h2⟩ := h e w' hr
   exact ⟨v, h1, h2⟩
end
/-! A function value held against nil. -/
section
variable {P : Program} (w : World) (t : TypeId) (ps rs : Array TypeId) (v : Bool) (f : Fn) (a b : Array Value) (h : P.underlying t = some (.func ps rs v))
include h
end
namespace Any
section
variable {P : Program} {ops : Array Oper} {β : Base} {S : Nat → Stat} {D : Nat → Kind} {Q : Act → Env → Prop} {k : Nat} {rest : List Oper} {a : Act} {E : Env}
variable {dst : Option Tmp} {ty : TypeId} {pos : String} {after : Array Edge} {g : Option (Nat × Bool)} {x : Operand} {xs : Array Operand} {ts : Array TypeId}
theorem at_ecall (h : wpE P ops β S D Q k (⟨dst, .call { callee := .value x, args := xs, argTypes := ts }, ty, pos, after, g⟩ :: rest) a E) : wpE P ops β S D Q k (⟨dst, .call { callee := .value x, args := xs, argTypes := ts }, ty, pos, after, g⟩ :: rest) a E := h
theorem q_callv {C : World → Prop} {K : Act → Prop} {f : FuncId} {cap : Array Value} {v : Value} (hf : Enters P f) (hx : a.eval x = .func (.func f) #[] cap) (vs : List Value) (hv : xs.toList.map a.eval = vs)
   (hc : ∀ w, C w → Calls P f (vs.toArray ++ cap) w fun e w' => e = .returned v ∧ C w') (hk : K (a.put dst v)) : Oper.quiet P ⟨dst, .call { callee := .value x, args := xs, argTypes := ts }, ty, pos, after, g⟩ a C K := by
 refine ⟨v, fun w hw => ?_, hk⟩
 unfold Oper.quietAt
 rw [run_callv hf hx vs hv w]
 exact ⟨rfl, hc w hw⟩
theorem at_qcall {C : World → Prop} {K : Act → Prop} (h : Oper.quiet P ⟨dst, .call { callee := .value x, args := xs, argTypes := ts }, ty, pos, after, g⟩ a C K) : Oper.quiet P ⟨dst, .call { callee := .value x, args := xs, argTypes := ts }, ty, pos, after, g⟩ a C K := h
end
end Any
namespace Any
open Go.RowKit
section
variable {P : Program} {ops : Array Oper} {β : Base} {S : Nat → Stat} {D : Nat → Kind} {Q : Act → Env → Prop} {k : Nat} {rest : List Oper} {a : Act} {E : Env}
variable {dst : Option Tmp} {ty T : TypeId} {pos : String} {after : Array Edge} {g : Option (Nat × Bool)} {x y : Operand}
theorem at_qbuild {C : World → Prop} {K : Act → Prop} {ps : Array (Nat × Operand)} (h : Oper.quiet P ⟨dst, .build T ps, ty, pos, after, g⟩ a C K) : Oper.quiet P ⟨dst, .build T ps, ty, pos, after, g⟩ a C K := h
theorem q_build {C : World → Prop} {K : Act → Prop} {ps : Array (Nat × Operand)} (vs : List (Nat × Value)) (hp : ps.toList.map (fun p => (p.1, a.eval p.2)) = vs) {cells : Array Value} (h : P.built T vs = some cells) (hk : K (a.put dst (.agg cells))) : Oper.quiet P ⟨dst, .build T ps, ty, pos, after, g⟩ a C K := by
 refine ⟨_, fun w hw => ?_, hk⟩
 have h' := run_build (P := P) w T (ps.map fun (i, x) => (i, a.eval x)) cells (by rw [Array.toList_map, ← h, ← hp])
 unfold Oper.quietAt execOp
 simp only [Sem.run_bind, h', Result.andThen_ok, Sem.run_pure]
 exact ⟨rfl, rfl⟩
end
end Any
section
open Go.RowKit
variable {P : Program} {ops : Array Oper} {rest : List Oper} {a : Act} {w : World} {Q : Exit → Act → World → Prop}
variable {dst : Option Tmp} {ty T : TypeId} {pos : String} {after : Array Edge} {g : Option (Nat × Bool)}
theorem at_build {ps : Array (Nat × Operand)} (h : wpList P ops Q (⟨dst, .build T ps, ty, pos, after, g⟩ :: rest) a w) : wpList P ops Q (⟨dst, .build T ps, ty, pos, after, g⟩ :: rest) a w := h
end
end Go
namespace Go
open Go.RowKit
section
variable {P : Program} {w : World} {k : Nat}
theorem run_app_full_row (t ty e : TypeId) (i : TypeInfo) (z : Value) (bytes : Nat) (ht : P.underlying t = some (.slice e)) (hi : P.info? e = some i) (hz : i.zero = some z)
   (hsize : i.size = k) (hby : i.bytes = bytes) (hzs : z.cells.size = k) (hk : 0 < k) {ao : Option Addr} {n : Nat} {c : List Value} (hv : Rd w k (.slice ao n n) c)
   {u : Value} {news : List Value} (hu : Rd w k u news) (hne : news ≠ []) (h1 : ∀ x ∈ news, x.oneCell' = true)
   (h63 : (c.length + news.length) / k ≤ maxLen) (hbytes : (c.length + news.length) / k * bytes ≤ 140737488355328) :
   ∃ v' w' x', (Builtin.append_ #[t, t] ty #[.slice ao n n, u]).run P w = .ok v' w' ∧ New w w' ∧ AppRow v' k (c ++ news) x' ∧ w.heap.size ≤ x'.1 ∧ w'.rowD x'.1 = x'.2 ∧ w'.soft x'.1 = true := by
 by_cases hc : c = []
 · subst hc
   obtain ⟨ao', n', cap', e', g1, g2, g3, g4, g5⟩ := hv
   cases e'
   have hn0 : n = 0 := by
     rcases Nat.eq_zero_or_pos n with h | h
     · exact h
     · have := Nat.mul_pos h hk
       simp at g1; omega
   subst hn0
   simp only [List.length_nil, Nat.zero_add] at h63 hbytes
   cases ao with
   | none =>
     obtain ⟨v', w', r1, r2, r3⟩ := run_app_nil (P := P) (w := w) t ty i z bytes ht hi hz hsize hby hzs hk hu h1 h63 hbytes
     rcases r3 with ⟨_, h0⟩ | ⟨x, q1, q2, q3, q4⟩
     · exact absurd h0 hne
     · exact ⟨v', w', x, r1, r2, q1, q2, q3, q4⟩
   | some a =>
     obtain ⟨ao, m, mc, rfl, hl, hmc, hcm, hnone, hcell⟩ := hu
     obtain ⟨b, o, rfl, _, _⟩ := hcell 0 (List.length_pos_iff.2 hne)
     have hnm : news.length / k = m := by rw [hl, Nat.mul_div_cancel _ hk]
     rw [hnm] at h63 hbytes
     have hm0 : 0 < m := by
       rcases Nat.eq_zero_or_pos m with h | h
       · subst h; exact absurd (List.length_eq_zero_iff.1 (by omega)) hne
       · exact h
     have hnews : ∀ j u, news[j]? = some u → w.cell? (Addr.add ⟨b, o, none⟩ j) = some u := fun j u hj => by
       have hjl := (List.getElem?_eq_some_iff.1 hj).1
       obtain ⟨b', o', e1, _, e2⟩ := hcell j hjl
       cases e1
       have : Addr.add ⟨b, o, none⟩ j = ⟨b, o + j, none⟩ := by
         unfold Addr.add
         by_cases h0 : j = 0
         · rw [if_pos h0, h0]; rfl
         · rw [if_neg h0]
       rw [this, e2]; exact hj
     have q1 := run_append_grow (P := P) w t ty e i z ht hi hz a 0 0 [] (by simp) (fun j u hj => by simp at hj) ⟨b, o, none⟩ m mc news (by rw [hsize]; exact hl) hnews (by omega) (by unfold maxLen at h63; omega) (growslice_fits (by omega) (by rw [hby]; simpa using hbytes))
     have hge := grownCap_ge w (0 + m) 0 e
     have hcm' := grownCap_le_maxLen w (0 + m) 0 e (by simpa using h63)
     have hlen : news.length = m * k := hl
     simp only [Nat.zero_add] at q1 hge hcm'
     have hx : AppRow (.slice (some ⟨w.heap.size, 0, none⟩) m (grownCap w m 0 e)) k news (w.heap.size, (([] : List Value).toArray ++ news.toArray ++ Builtin.zeroCells z.cells (grownCap w m 0 e - m))) := by
       refine ⟨m, grownCap w m 0 e, rfl, hlen, hge, hcm', ?_, ?_⟩
       · simp only [Array.size_append, List.size_toArray, size_zeroCells, hzs, List.length_nil, Nat.zero_add]
         rw [hlen, ← Nat.add_mul]; congr 1; omega
       · simp only [Array.toList_append, List.nil_append]
         rw [← hlen]
         exact List.take_left
     have hb : Below w.heap.size w w.drew := ⟨rfl, rfl, rfl, Nat.le_refl _, fun _ _ => rfl⟩
     exact ⟨_, _, _, q1, hb.alloc (Nat.le_refl _) _, hx, Nat.le_refl _, rowD_alloc_at w.drew _ _ _ rfl, soft_alloc_at w.drew _ _ _ rfl⟩
 · obtain ⟨b, o, n', cap', e', g1, g2, g3, hb, g5⟩ := hv.some (List.length_pos_iff.2 hc)
   cases e'
   obtain ⟨ao, m, mc, rfl, hl, hmc, hcm, hnone, hcell⟩ := hu
   obtain ⟨b2, o2, rfl, _, _⟩ := hcell 0 (List.length_pos_iff.2 hne)
   have hnm : (c.length + news.length) / k = n + m := by rw [g1, hl, ← Nat.add_mul, Nat.mul_div_cancel _ hk]
   rw [hnm] at h63 hbytes
   have hm0 : 0 < m := by
     rcases Nat.eq_zero_or_pos m with h | h
     · subst h; exact absurd (List.length_eq_zero_iff.1 (by omega)) hne
     · exact h
   have hadd : ∀ (b o j : Nat), Addr.add ⟨b, o, none⟩ j = ⟨b, o + j, none⟩ := fun b o j => by
     unfold Addr.add
     by_cases h0 : j = 0
     · rw [if_pos h0, h0]; rfl
     · rw [if_neg h0]
   have hnews : ∀ j u, news[j]? = some u → w.cell? (Addr.add ⟨b2, o2, none⟩ j) = some u := fun j u hj => by
     have hjl := (List.getElem?_eq_some_iff.1 hj).1
     obtain ⟨b', o', e1, _, e2⟩ := hcell j hjl
     cases e1
     rw [hadd, e2]; exact hj
   have holds : ∀ j u, c[j]? = some u → w.cell? (Addr.add ⟨b, o, none⟩ j) = some u := fun j u hj => by
     rw [hadd, g5 j (List.getElem?_eq_some_iff.1 hj).1]; exact hj
   have q1 := run_append_grow (P := P) w t ty e i z ht hi hz ⟨b, o, none⟩ n n c (by rw [hsize]; exact g1) holds ⟨b2, o2, none⟩ m mc news (by rw [hsize]; exact hl) hnews (by omega) (by unfold maxLen at h63; omega) (growslice_fits (by omega) (by rw [hby]; exact hbytes))
   have hge := grownCap_ge w (n + m) n e
   have hcm' := grownCap_le_maxLen w (n + m) n e h63
   have hlen : (c ++ news).length = (n + m) * k := by rw [List.length_append, g1, hl, Nat.add_mul]
   have hx : AppRow (.slice (some ⟨w.heap.size, 0, none⟩) (n + m) (grownCap w (n + m) n e)) k (c ++ news) (w.heap.size, (c.toArray ++ news.toArray ++ Builtin.zeroCells z.cells (grownCap w (n + m) n e - (n + m)))) := by
     refine ⟨n + m, grownCap w (n + m) n e, rfl, hlen, hge, hcm', ?_, ?_⟩
     · simp only [Array.size_append, List.size_toArray, size_zeroCells, hzs, g1, hl, ← Nat.add_mul]
       congr 1
       omega
     · simp only [Array.toList_append, List.append_assoc]
       rw [← List.append_assoc, ← hlen]
       exact List.take_left
   have hb : Below w.heap.size w w.drew := ⟨rfl, rfl, rfl, Nat.le_refl _, fun _ _ => rfl⟩
   exact ⟨_, _, _, q1, hb.alloc (Nat.le_refl _) _, hx, Nat.le_refl _, rowD_alloc_at w.drew _ _ _ rfl, soft_alloc_at w.drew _ _ _ rfl⟩
end
namespace Any
theorem VE.rdold {β : Base} {E : Env} {w : World} {k : Nat} {v : Value} {c : List Value} (h : VE β E w) (hr : Rd β.W k v c) (ha : c ≠ [] → ∀ b o n cap, v = .slice (some ⟨b, o, none⟩) n cap → b ∉ β.X) : Rd w k v c := by
 obtain ⟨ao, n, cap, rfl, h1, h2, h3, h4, h5⟩ := hr
 refine ⟨ao, n, cap, rfl, h1, h2, h3, h4, fun i hi => ?_⟩
 obtain ⟨b', o, e, hb, hc⟩ := h5 i hi
 have hne : b' ∉ β.X := ha (fun e => by rw [e] at hi; simp at hi) b' o n cap (by rw [e])
 exact ⟨b', o, e, Nat.lt_of_lt_of_le hb h.size, by rw [← hc]; exact World.cell?_of_block (w := β.W) (h.frame b' hb hne)⟩
theorem rd_start {w0 w : World} {L : List (Nat × Array Value)} {R : List (Nat × Value × List Value)} {k : Nat} {v : Value} {c : List Value} (h : Mem w0 w L R) (hm : (k, v, c) ∈ R) : Rd (Base.mk w0 (w.drewN 1) (L.map (·.1))).W k v c ∧ (c ≠ [] → ∀ b o n cap, v = .slice (some ⟨b, o, none⟩) n cap → b ∉ (Base.mk w0 (w.drewN 1) (L.map (·.1))).X) :=
 ⟨(h.rd hm).new ⟨rfl, rfl, rfl, Nat.le_refl _, fun _ _ => rfl⟩, fun hc b o n cap e hX => by
   obtain ⟨p, hp, he⟩ := List.mem_map.1 hX
   exact (h.rds _ hm).2 hc b o n cap e p hp he⟩
section
variable {P : Program} {ops : Array Oper} {β : Base} {S : Nat → Stat} {D : Nat → Kind} {Q : Act → Env → Prop} {k : Nat} {rest : List Oper} {a : Act} {E : Env}
variable {dst : Option Tmp} {ty t : TypeId} {pos : String} {after : Array Edge} {g : Option (Nat × Bool)} {x y : Operand}
theorem E_appfull {i j : Nat} {ao : Option Addr} {n kk B m : Nat} {c news : List Value} {zs : Array Value} {e : TypeId} (hw : Region.wanted (⟨dst, .call { callee := .builtin .append, args := #[x, y], argTypes := #[t, t] }, ty, pos, after, g⟩ : Oper) (yielded ops a.tmps) = true)
   (hD : D k = .own (AppRow · kk (c ++ news))) (hS : (S k).write = some i) (hx : a.eval x = .slice ao n n) (hc : Rd β.W kk (.slice ao n n) c ∧ (c ≠ [] → ∀ b o n' cap, (.slice ao n n : Value) = .slice (some ⟨b, o, none⟩) n' cap → b ∉ β.X))
   (hy : a.eval y = .slice (some ⟨B, 0, none⟩) m m) (hj : j ∈ (S k).keys) (hEj : E j = some (B, zs)) (hzs : zs.toList = news) (hm : zs.size = m * kk) (hmm : m ≤ maxLen) (hne : news ≠ [])
   (z : Value) (bytes : Nat) (ht : P.underlying t = some (.slice e)) (hi : (P.info? e).map (fun i => (i.zero, i.size, i.bytes)) = some (some z, kk, bytes)) (hz : z.cells.size = kk) (hk0 : 0 < kk)
   (h1 : ∀ x ∈ news, x.oneCell' = true) (h63 : (c.length + news.length) / kk ≤ maxLen) (hbytes : (c.length + news.length) / kk * bytes ≤ 140737488355328)
   (hk : ∀ v' x', AppRow v' kk (c ++ news) x' → wpE P ops β S D Q (k + 1) rest (a.put dst v') (E.put i x')) : wpE P ops β S D Q k (⟨dst, .call { callee := .builtin .append, args := #[x, y], argTypes := #[t, t] }, ty, pos, after, g⟩ :: rest) a E := by
 obtain ⟨i0, hi1, hiz, hsz, hb⟩ := info_parts hi
 have hnl : news.length = m * kk := by rw [← hzs]; simpa using hm
 refine E_own hw hD hS ?_ (fun E' he w hv => ?_) hk
 · obtain ⟨_, n', _, e1, g1, _⟩ := hc.1
   have hl : (c ++ news).length = (n' + m) * kk := by rw [List.length_append, g1, hnl, Nat.add_mul]
   have : (c.length + news.length) / kk = n' + m := by rw [g1, hnl, ← Nat.add_mul, Nat.mul_div_cancel _ hk0]
   exact AppRow.some hl (by omega)
 · have hEj' : E' j = Option.some (B, zs) := by rw [he j hj]; exact hEj
   have hu := hv.rd hEj' m kk hm hmm
   rw [hzs] at hu
   obtain ⟨v', w', x', r1, r2, r3, r4, r5, r6⟩ := run_app_full_row (P := P) (w := w) t ty e i0 z bytes ht hi1 hiz hsz hb hz hk0 (hv.rdold hc.1 hc.2) hu hne h1 h63 hbytes
   unfold res execOp
   simp only [resolve, invoke, builtin, Sem.run_bind, Sem.run_pure, Result.andThen_ok, List.map_toArray, List.map_cons, List.map_nil, hx, hy, r1]
   exact ⟨x', r3, hv.lay r4 r2 r5 r6⟩
end
section
variable {P : Program} {β : Base} {E' : Env} {a : Act} {K : Act → Prop} {dst : Option Tmp} {ty T : TypeId} {pos : String} {after : Array Edge} {g : Option (Nat × Bool)} {x : Operand}
theorem q_rd {k b o n cap : Nat} {c : List Value} (hr : Rd β.W k (.slice (some ⟨b, o, none⟩) n cap) c ∧ (c ≠ [] → ∀ b' o' n' cap', (.slice (some ⟨b, o, none⟩) n cap : Value) = .slice (some ⟨b', o', none⟩) n' cap' → b' ∉ β.X)) (i : Nat)
   (hx : a.eval x = .pointer (some ⟨b, o + i, none⟩)) (d : TypeDesc) (hu : P.underlying T = some d) (hd : d.isRow = false) (v : Value) (hv : c[i]? = some v) (hk : K (a.put dst v)) : Oper.quiet P ⟨dst, .load T x, ty, pos, after, g⟩ a (VE β E') K :=
 quiet_load_cell T x rfl b (o + i) hx d hu hd v (fun w hw => by
   have hlt := (List.getElem?_eq_some_iff.1 hv).1
   obtain ⟨_, _, _, _, e, _, _, _, _, g⟩ := (hw.rdold hr.1 hr.2).some (by omega)
   cases e
   rw [← cell_rowD, g i hlt]; exact hv) hk
end
theorem VE.mem {w0 w w9 : World} {L : List (Nat × Array Value)} {R : List (Nat × Value × List Value)} {E : Env} (h : VE ⟨w0, w.drewN 1, L.map (·.1)⟩ E w9) (hm : Mem w0 w L R) (ks : List Nat) (hn : ks.Nodup) : Mem w0 w9 (ks.filterMap E) R :=
 ⟨h.vars ks hn, fun x hx => by
   obtain ⟨h1, h2⟩ := rd_start (k := x.1) (v := x.2.1) (c := x.2.2) hm hx
   refine ⟨h.rdold h1 h2, fun hc b o n cap e p hp hpb => ?_⟩
   obtain ⟨i, _, hi⟩ := List.mem_filterMap.1 hp
   rcases h.inX i p.1 p.2 hi with g | g
   · exact h2 hc b o n cap e (by rw [← hpb]; exact g)
   · rw [e] at h1
     have := h1.lt hc
     simp only at g this
     omega⟩
theorem VE.memr {w0 w w9 : World} {L1 L : List (Nat × Array Value)} {R : List (Nat × Value × List Value)} {E : Env} (h : VE ⟨w0, w.drewN 1, L1.map (·.1)⟩ E w9) (hm : Mem w0 w (L1 ++ L) R) (ks : List Nat) (hn : ks.Nodup) : Mem w0 w9 (ks.filterMap E ++ L) R := by
 have hm1 : Mem w0 w L1 R := hm.keep (List.sublist_append_left _ _)
 have h1 := h.mem hm1 ks hn
 have ha := hm.vars.apart
 rw [List.map_append, List.nodup_append] at ha
 have old : ∀ p ∈ L, p.1 < w.heap.size ∧ p.1 ∉ L1.map (·.1) := fun p hp =>
   ⟨soft_lt (hm.vars.rows p (List.mem_append_right _ hp)).2.1, fun hX => ha.2.2 p.1 hX p.1 (List.mem_map_of_mem hp) rfl⟩
 refine ⟨⟨h1.vars.below, fun p hp => ?_, ?_⟩, fun x hx => ⟨(h1.rds x hx).1, fun hc b o n cap e p hp => ?_⟩⟩
 · rcases List.mem_append.1 hp with hp | hp
   · exact h1.vars.rows p hp
   · obtain ⟨g1, g2, g3⟩ := hm.vars.rows p (List.mem_append_right _ hp)
     obtain ⟨o1, o2⟩ := old p hp
     have hf := h.frame p.1 o1 o2
     exact ⟨(rowD_congr hf).trans g1, (soft_congr hf).trans g2, g3⟩
 · rw [List.map_append, List.nodup_append]
   refine ⟨h1.vars.apart, ha.2.1, fun a ha' c hc e => ?_⟩
   subst e
   obtain ⟨p, hp, rfl⟩ := List.mem_map.1 ha'
   obtain ⟨p', hp', e'⟩ := List.mem_map.1 hc
   obtain ⟨i, _, hi⟩ := List.mem_filterMap.1 hp
   obtain ⟨o1, o2⟩ := old p' hp'
   rcases h.inX i p.1 p.2 hi with g | g
   · exact o2 (by rw [e']; exact g)
   · simp only at g
     have : w.heap.size ≤ p.1 := g
     omega
 · rcases List.mem_append.1 hp with hp | hp
   · exact (h1.rds x hx).2 hc b o n cap e p hp
   · exact (hm.rds x hx).2 hc b o n cap e p (List.mem_append_right _ hp)
end Any
theorem AppRow.fr {w0 w : World} {L : List (Nat × Array Value)} {v : Value} {k : Nat} {c : List Value} {x : Nat × Array Value} (h : AppRow v k c x) (hv : Vars w0 w L) (hm : x ∈ L) : FR w0 w k v c := by
 have h0 := hv.rows x hm
 refine ⟨h.rd h0.1 h0.2.1, fun _ => ?_⟩
 obtain ⟨n, cap, rfl, _⟩ := h
 exact ⟨x.1, 0, n, cap, rfl, h0.2.2⟩
theorem Mem.yield {w0 w : World} {L1 L2 : List (Nat × Array Value)} {R : List (Nat × Value × List Value)} {v : Value} {k : Nat} {c : List Value} {x : Nat × Array Value} (h : Mem w0 w (L1 ++ x :: L2) R) (hx : AppRow v k c x) : Mem w0 w (L1 ++ L2) ((k, v, c) :: R) := by
 have hm : x ∈ L1 ++ x :: L2 := by simp
 have h0 := h.vars.rows x hm
 refine (h.keep (List.Sublist.append_left (List.sublist_cons_self x L2) L1)).add (hx.rd h0.1 h0.2.1) fun hc b o n cap e p hp hpb => ?_
 obtain ⟨n', cap', e', _⟩ := hx
 rw [e] at e'
 cases e'
 have ha := h.vars.apart
 rw [List.map_append, List.map_cons, List.nodup_append] at ha
 obtain ⟨a1, a2, a3⟩ := ha
 rw [List.nodup_cons] at a2
 rcases List.mem_append.1 hp with hp | hp
 · exact a3 p.1 (List.mem_map_of_mem hp) x.1 (List.mem_cons_self ..) hpb
 · exact a2.1 (by rw [← hpb]; exact List.mem_map_of_mem hp)
theorem Mem.swap {w0 w : World} {x y : Nat × Array Value} {L : List (Nat × Array Value)} {R : List (Nat × Value × List Value)} (h : Mem w0 w (x :: y :: L) R) : Mem w0 w (y :: x :: L) R :=
 ⟨h.vars.swap, fun z hz => ⟨(h.rds z hz).1, fun hc b o n cap e p hp => (h.rds z hz).2 hc b o n cap e p (by simp only [List.mem_cons] at hp ⊢; rcases hp with h | h | h <;> simp [h])⟩⟩
theorem Mem.drop {w0 w : World} {x : Nat × Array Value} {L : List (Nat × Array Value)} {R : List (Nat × Value × List Value)} (h : Mem w0 w (x :: L) R) : Mem w0 w L R := h.keep (List.sublist_cons_self _ _)
theorem Mem.dropR {w0 w : World} {x : Nat × Value × List Value} {L : List (Nat × Array Value)} {R : List (Nat × Value × List Value)} (h : Mem w0 w L (x :: R)) : Mem w0 w L R := h.keepR fun _ hy => Mem.s hy
section
variable {P : Program} {ops : Array Oper} {rest : List Oper} {a : Act} {w w0 : World} {Q : Exit → Act → World → Prop} {L : List (Nat × Array Value)} {R : List (Nat × Value × List Value)}
variable {dst : Option Tmp} {ty T : TypeId} {pos : String} {after : Array Edge} {g : Option (Nat × Bool)} {x : Operand}
theorem wl_rd (hgd : Region.wanted (⟨dst, .load T x, ty, pos, after, g⟩ : Oper) (yielded ops a.tmps) = true) {k b o n cap : Nat} {c : List Value} (hr : Rd w k (.slice (some ⟨b, o, none⟩) n cap) c) (i : Nat) (hx : a.eval x = .pointer (some ⟨b, o + i, none⟩)) (d : TypeDesc)
   (hu : P.underlying T = some d) (hd : d.isRow = false) (v : Value) (hv : c[i]? = some v) (h : wpList P ops Q rest (a.put dst v) w) : wpList P ops Q (⟨dst, .load T x, ty, pos, after, g⟩ :: rest) a w := by
 have hlt := (List.getElem?_eq_some_iff.1 hv).1
 obtain ⟨_, _, _, _, e, _, _, _, _, hc⟩ := hr.some (by omega)
 cases e
 have := hc i hlt
 rw [hv, cell_rowD] at this
 exact wl_ldc hgd b (o + i) hx (w.rowD b) rfl d hu hd v this h
end
end Go
