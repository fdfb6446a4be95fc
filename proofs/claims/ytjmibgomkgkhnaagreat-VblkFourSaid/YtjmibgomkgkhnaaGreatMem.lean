/-
 The call's own variables and the slices that it reads, side by side; append to a slice that is full. No program in sight.
-/
import Derived.Test.YtjmibgomkgkhnaaGreatOwn
set_option linter.unusedSimpArgs false
set_option linter.unusedVariables false
namespace Go
open Go.RowKit
def Apart (v : Value) (c : List Value) (L : List (Nat × Array Value)) : Prop := c ≠ [] → ∀ b o n cap, v = .slice (some ⟨b, o, none⟩) n cap → ∀ p ∈ L, p.1 ≠ b
def FR (w w' : World) (k : Nat) (v : Value) (c : List Value) : Prop := Rd w' k v c ∧ (c ≠ [] → ∃ b o n cap, v = .slice (some ⟨b, o, none⟩) n cap ∧ w.heap.size ≤ b)
structure Mem (w0 w : World) (L : List (Nat × Array Value)) (R : List (Nat × Value × List Value)) : Prop where
 vars : Vars w0 w L
 rds : ∀ x ∈ R, Rd w x.1 x.2.1 x.2.2 ∧ Apart x.2.1 x.2.2 L
theorem Rd.wrote {w w' : World} {b : Nat} {z : Array Value} {k : Nat} {v : Value} {c : List Value} (h : Rd w k v c) (hw : Wrote w w' b z) (ha : c ≠ [] → ∀ b' o n cap, v = .slice (Option.some ⟨b', o, none⟩) n cap → b ≠ b') : Rd w' k v c := by
 obtain ⟨ao, n, cap, rfl, h1, h2, h3, h4, h5⟩ := h
 refine ⟨ao, n, cap, rfl, h1, h2, h3, h4, fun i hi => ?_⟩
 obtain ⟨b', o, e, hb, hc⟩ := h5 i hi
 have hne : b' ≠ b := fun e' => ha (fun e => by rw [e] at hi; simp at hi) b' o n cap (by rw [e]) e'.symm
 exact ⟨b', o, e, by rw [hw.size]; exact hb, by rw [← hc]; exact World.cell?_of_block (w := w) (hw.other b' hne)⟩
section
variable {w0 w w' : World} {L : List (Nat × Array Value)} {R : List (Nat × Value × List Value)} {k : Nat} {v : Value} {c : List Value}
theorem Mem.nil (w : World) : Mem w w [] [] := ⟨Vars.nil w, fun _ h => (List.not_mem_nil h).elim⟩
theorem Mem.below (h : Mem w0 w L R) : Below w0.heap.size w0 w := h.vars.below
theorem Mem.z {x : Nat × Value × List Value} {l : List (Nat × Value × List Value)} : x ∈ x :: l := List.Mem.head _
theorem Mem.s {x y : Nat × Value × List Value} {l : List (Nat × Value × List Value)} (h : x ∈ l) : x ∈ y :: l := List.Mem.tail _ h
theorem Mem.rd (h : Mem w0 w L R) (hm : (k, v, c) ∈ R) : Rd w k v c := (h.rds _ hm).1
theorem Mem.add (h : Mem w0 w L R) (hr : Rd w k v c) (ha : Apart v c L) : Mem w0 w L ((k, v, c) :: R) :=
 ⟨h.vars, fun x hx => by
   rcases List.mem_cons.1 hx with rfl | hx
   · exact ⟨hr, ha⟩
   · exact h.rds x hx⟩
theorem Rd.lt {b o n cap : Nat} (h : Rd w k (.slice (Option.some ⟨b, o, none⟩) n cap) c) (hc : c ≠ []) : b < w.heap.size := by
 obtain ⟨b', o', n', cap', e, _, _, _, hb, _⟩ := h.some (List.length_pos_iff.2 hc)
 cases e; exact hb
theorem Mem.old (h : Mem w0 w L R) (hr : Rd w0 k v c) : Mem w0 w L ((k, v, c) :: R) :=
 h.add (hr.below h.below) (fun hc b o n cap e p hp => by
   subst e
   have := hr.lt hc
   have := (h.vars.rows p hp).2.2
   omega)
theorem Mem.new (h : Mem w0 w L R) (hn : New w w') : Mem w0 w' L R := ⟨h.vars.new hn, fun x hx => ⟨(h.rds x hx).1.new hn, (h.rds x hx).2⟩⟩
theorem Mem.fresh (h : Mem w0 w L R) (hn : New w w') (hr : FR w w' k v c) : Mem w0 w' L ((k, v, c) :: R) :=
 (h.new hn).add hr.1 (fun hc b o n cap e p hp => by
   obtain ⟨b', o', n', cap', e', hb⟩ := hr.2 hc
   rw [e'] at e; cases e
   have := soft_lt (h.vars.rows p hp).2.1
   omega)
theorem Mem.madeAt {b : Nat} {z : Array Value} (h : Mem w0 w L R) (hm : MadeAt w w' b z) : Mem w0 w' ((b, z) :: L) R :=
 ⟨h.vars.madeAt hm, fun x hx => by
   obtain ⟨h1, h2⟩ := h.rds x hx
   obtain ⟨rfl, hm⟩ := hm
   refine ⟨h1.new hm.new, fun hc b o n cap e p hp => ?_⟩
   rcases List.mem_cons.1 hp with rfl | hp
   · rw [e] at h1
     have := h1.lt hc
     simp only; omega
   · exact h2 hc b o n cap e p hp⟩
theorem Mem.set (h : Mem w0 w L R) (i : Nat) {b : Nat} {c0 c1 : Array Value} (hi : L[i]? = some (b, c0)) (hw : Wrote w w' b c1) : Mem w0 w' (L.set i (b, c1)) R :=
 ⟨h.vars.set i hi hw, fun x hx => by
   obtain ⟨h1, h2⟩ := h.rds x hx
   refine ⟨h1.wrote hw fun hc b' o n cap e => h2 hc b' o n cap e _ (List.mem_of_getElem? hi), fun hc b' o n cap e p hp => ?_⟩
   rcases List.mem_or_eq_of_mem_set hp with hp | rfl
   · exact h2 hc b' o n cap e p hp
   · exact h2 hc b' o n cap e (b, c0) (List.mem_of_getElem? hi)⟩
theorem Mem.keep {L' : List (Nat × Array Value)} (h : Mem w0 w L R) (hs : L'.Sublist L) : Mem w0 w L' R := ⟨h.vars.keep hs, fun x hx => ⟨(h.rds x hx).1, fun hc b o n cap e p hp => (h.rds x hx).2 hc b o n cap e p (hs.subset hp)⟩⟩
theorem Mem.keepR {R' : List (Nat × Value × List Value)} (h : Mem w0 w L R) (hs : ∀ x ∈ R', x ∈ R) : Mem w0 w L R' := ⟨h.vars, fun x hx => h.rds x (hs x hx)⟩
theorem OwnS.fr {e : TypeId} (h : OwnS w w' L e k v c) : FR w w' k v c := by
 refine ⟨h.rd, fun hc => ?_⟩
 rcases h.row with ⟨_, h0⟩ | ⟨x, ⟨n, cap, rfl, _⟩, hx⟩
 · exact absurd h0 hc
 · exact ⟨x.1, 0, n, cap, rfl, (hx.rows x (List.mem_cons_self ..)).2.2⟩
theorem FR.new {w2 : World} (h : FR w w' k v c) (hn : New w' w2) : FR w w2 k v c := ⟨h.1.new hn, h.2⟩
theorem FR.nil (w w' : World) (k : Nat) : FR w w' k (.slice none 0 0) [] := ⟨Rd.nil _ _, fun h => (h rfl).elim⟩
end
section
variable {P : Program} {w : World} {k : Nat}
theorem run_app_full (t ty e : TypeId) (i : TypeInfo) (z : Value) (bytes : Nat) (ht : P.underlying t = some (.slice e)) (hi : P.info? e = some i) (hz : i.zero = some z)
   (hsize : i.size = k) (hby : i.bytes = bytes) (hzs : z.cells.size = k) (hk : 0 < k) {ao : Option Addr} {n : Nat} {c : List Value} (hv : Rd w k (.slice ao n n) c)
   {u : Value} {news : List Value} (hu : Rd w k u news) (hne : news ≠ []) (h1 : ∀ x ∈ news, x.oneCell' = true)
   (h63 : (c.length + news.length) / k ≤ maxLen) (hbytes : (c.length + news.length) / k * bytes ≤ 140737488355328) :
   ∃ v' w', (Builtin.append_ #[t, t] ty #[.slice ao n n, u]).run P w = .ok v' w' ∧ New w w' ∧ FR w w' k v' (c ++ news) := by
 by_cases hc : c = []
 · subst hc
   obtain ⟨ao', n', cap', e', g1, g2, g3, g4, g5⟩ := hv
   cases e'
   have hn0 : n = 0 := by
     rcases Nat.eq_zero_or_pos n with h | h
     · exact h
     · have := Nat.mul_pos h hk
       simp at g1; omega
   subst hn0
   simp only [List.length_nil, Nat.zero_add] at h63 hbytes
   cases ao with
   | none =>
     obtain ⟨v', w', r1, r2, r3⟩ := run_app_nil (P := P) (w := w) t ty i z bytes ht hi hz hsize hby hzs hk hu h1 h63 hbytes
     refine ⟨v', w', r1, r2, ?_⟩
     rcases r3 with ⟨_, h0⟩ | ⟨x, q1, q2, q3, q4⟩
     · exact absurd h0 hne
     · have q1' := q1
       obtain ⟨n, cap, rfl, _⟩ := q1'
       exact ⟨q1.rd q3 q4, fun _ => ⟨x.1, 0, n, cap, rfl, q2⟩⟩
   | some a =>
     obtain ⟨ao, m, mc, rfl, hl, hmc, hcm, hnone, hcell⟩ := hu
     obtain ⟨b, o, rfl, _, _⟩ := hcell 0 (List.length_pos_iff.2 hne)
     have hnm : news.length / k = m := by rw [hl, Nat.mul_div_cancel _ hk]
     rw [hnm] at h63 hbytes
     have hm0 : 0 < m := by
       rcases Nat.eq_zero_or_pos m with h | h
       · subst h; exact absurd (List.length_eq_zero_iff.1 (by omega)) hne
       · exact h
     have hnews : ∀ j u, news[j]? = some u → w.cell? (Addr.add ⟨b, o, none⟩ j) = some u := fun j u hj => by
       have hjl := (List.getElem?_eq_some_iff.1 hj).1
       obtain ⟨b', o', e1, _, e2⟩ := hcell j hjl
       cases e1
       have : Addr.add ⟨b, o, none⟩ j = ⟨b, o + j, none⟩ := by
         unfold Addr.add
         by_cases h0 : j = 0
         · rw [if_pos h0, h0]; rfl
         · rw [if_neg h0]
       rw [this, e2]; exact hj
     have q1 := run_append_grow (P := P) w t ty e i z ht hi hz a 0 0 [] (by simp) (fun j u hj => by simp at hj) ⟨b, o, none⟩ m mc news (by rw [hsize]; exact hl) hnews (by omega) (by unfold maxLen at h63; omega) (growslice_fits (by omega) (by rw [hby]; simpa using hbytes))
     have hge := grownCap_ge w (0 + m) 0 e
     have hcm' := grownCap_le_maxLen w (0 + m) 0 e (by simpa using h63)
     have hlen : news.length = m * k := hl
     simp only [Nat.zero_add] at q1 hge hcm'
     have hx : AppRow (.slice (some ⟨w.heap.size, 0, none⟩) m (grownCap w m 0 e)) k news (w.heap.size, (([] : List Value).toArray ++ news.toArray ++ Builtin.zeroCells z.cells (grownCap w m 0 e - m))) := by
       refine ⟨m, grownCap w m 0 e, rfl, hlen, hge, hcm', ?_, ?_⟩
       · simp only [Array.size_append, List.size_toArray, size_zeroCells, hzs, List.length_nil, Nat.zero_add]
         rw [hlen, ← Nat.add_mul]; congr 1; omega
       · simp only [Array.toList_append, List.nil_append]
         rw [← hlen]
         exact List.take_left
     have hb : Below w.heap.size w w.drew := ⟨rfl, rfl, rfl, Nat.le_refl _, fun _ _ => rfl⟩
     refine ⟨_, _, q1, hb.alloc (Nat.le_refl _) _, hx.rd (rowD_alloc_at w.drew _ _ _ rfl) (soft_alloc_at w.drew _ _ _ rfl), fun _ => ⟨_, _, _, _, rfl, Nat.le_refl _⟩⟩
 · obtain ⟨b, o, n', cap', e', g1, g2, g3, hb, g5⟩ := hv.some (List.length_pos_iff.2 hc)
   cases e'
   obtain ⟨ao, m, mc, rfl, hl, hmc, hcm, hnone, hcell⟩ := hu
   obtain ⟨b2, o2, rfl, _, _⟩ := hcell 0 (List.length_pos_iff.2 hne)
   have hnm : (c.length + news.length) / k = n + m := by rw [g1, hl, ← Nat.add_mul, Nat.mul_div_cancel _ hk]
   rw [hnm] at h63 hbytes
   have hm0 : 0 < m := by
     rcases Nat.eq_zero_or_pos m with h | h
     · subst h; exact absurd (List.length_eq_zero_iff.1 (by omega)) hne
     · exact h
   have hadd : ∀ (b o j : Nat), Addr.add ⟨b, o, none⟩ j = ⟨b, o + j, none⟩ := fun b o j => by
     unfold Addr.add
     by_cases h0 : j = 0
     · rw [if_pos h0, h0]; rfl
     · rw [if_neg h0]
   have hnews : ∀ j u, news[j]? = some u → w.cell? (Addr.add ⟨b2, o2, none⟩ j) = some u := fun j u hj => by
     have hjl := (List.getElem?_eq_some_iff.1 hj).1
     obtain ⟨b', o', e1, _, e2⟩ := hcell j hjl
     cases e1
     rw [hadd, e2]; exact hj
   have holds : ∀ j u, c[j]? = some u → w.cell? (Addr.add ⟨b, o, none⟩ j) = some u := fun j u hj => by
     rw [hadd, g5 j (List.getElem?_eq_some_iff.1 hj).1]; exact hj
   have q1 := run_append_grow (P := P) w t ty e i z ht hi hz ⟨b, o, none⟩ n n c (by rw [hsize]; exact g1) holds ⟨b2, o2, none⟩ m mc news (by rw [hsize]; exact hl) hnews (by omega) (by unfold maxLen at h63; omega) (growslice_fits (by omega) (by rw [hby]; exact hbytes))
   have hge := grownCap_ge w (n + m) n e
   have hcm' := grownCap_le_maxLen w (n + m) n e h63
   have hlen : (c ++ news).length = (n + m) * k := by rw [List.length_append, g1, hl, Nat.add_mul]
   have hx : AppRow (.slice (some ⟨w.heap.size, 0, none⟩) (n + m) (grownCap w (n + m) n e)) k (c ++ news) (w.heap.size, (c.toArray ++ news.toArray ++ Builtin.zeroCells z.cells (grownCap w (n + m) n e - (n + m)))) := by
     refine ⟨n + m, grownCap w (n + m) n e, rfl, hlen, hge, hcm', ?_, ?_⟩
     · simp only [Array.size_append, List.size_toArray, size_zeroCells, hzs, g1, hl, ← Nat.add_mul]
       congr 1
       omega
     · simp only [Array.toList_append, List.append_assoc]
       rw [← List.append_assoc, ← hlen]
       exact List.take_left
   have hb : Below w.heap.size w w.drew := ⟨rfl, rfl, rfl, Nat.le_refl _, fun _ _ => rfl⟩
   refine ⟨_, _, q1, hb.alloc (Nat.le_refl _) _, hx.rd (rowD_alloc_at w.drew _ _ _ rfl) (soft_alloc_at w.drew _ _ _ rfl), fun _ => ⟨_, _, _, _, rfl, Nat.le_refl _⟩⟩
variable {ops : Array Oper} {rest : List Oper} {a : Act} {Q : Exit → Act → World → Prop}
variable {dst : Option Tmp} {ty t e : TypeId} {pos : String} {after : Array Edge} {g : Option (Nat × Bool)} {x y : Operand}
theorem wl_full (hgd : Region.wanted (⟨dst, .call { callee := .builtin .append, args := #[x, y], argTypes := #[t, t] }, ty, pos, after, g⟩ : Oper) (yielded ops a.tmps) = true) {ao : Option Addr} {n : Nat} {c : List Value} (hx : a.eval x = .slice ao n n) (hv : Rd w k (.slice ao n n) c) (z : Value) (bytes : Nat) (ht : P.underlying t = some (.slice e))
   (hi : (P.info? e).map (fun i => (i.zero, i.size, i.bytes)) = some (some z, k, bytes)) (hzs : z.cells.size = k) (hk : 0 < k) {u : Value} (hy : a.eval y = u) {news : List Value} (hu : Rd w k u news) (hne : news ≠ []) (h1 : ∀ x ∈ news, x.oneCell' = true)
   (h63 : (c.length + news.length) / k ≤ maxLen) (hbytes : (c.length + news.length) / k * bytes ≤ 140737488355328)
   (hn : ∀ v' w', New w w' → FR w w' k v' (c ++ news) → wpList P ops Q rest (a.put dst v') w') : wpList P ops Q (⟨dst, .call { callee := .builtin .append, args := #[x, y], argTypes := #[t, t] }, ty, pos, after, g⟩ :: rest) a w := by
 obtain ⟨i, hi1, hz, hsz, hb⟩ := info_parts hi
 obtain ⟨v', w', r1, r2, r3⟩ := run_app_full (P := P) (w := w) t ty e i z bytes ht hi1 hz hsz hb hzs hk hv hu hne h1 h63 hbytes
 refine wpList_want hgd fun K hK => ?_
 unfold Oper.wp execOp
 simp only [resolve, invoke, builtin, Sem.run_bind, Sem.run_pure, Result.andThen_ok, List.map_toArray, List.map_cons, List.map_nil, hx, hy, r1]
 exact hK _ _ (hn v' w' r2 r3)
end
end Go

theorem Go.Mem.sets {w0 w w' : Go.World} {L L' : List (Nat × Array Go.Value)} {R : List (Nat × Go.Value × List Go.Value)} (h : Go.Mem w0 w L R) {b : Nat} {c0 c : Array Go.Value} (hs : Go.SetM b c0 c L L') (hw : Go.Wrote w w' b c) : Go.Mem w0 w' L' R := by
 obtain ⟨i, h1, h2⟩ := hs.at_
 rw [h2]; exact h.set i h1 hw
