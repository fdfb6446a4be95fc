/-
 More rules of the walk over a region that draws: a row laid whose cells hang on what was laid before; append of such a row; a call that reads a row laid in the region. No program in sight.
-/
import Derived.Test.YtjmibgomkgkhnaaGreatKS
set_option linter.unusedVariables false
set_option linter.unusedSimpArgs false
namespace Go
namespace Any
open Go.RowKit
section
variable {P : Program} {ops : Array Oper} {β : Base} {S : Nat → Stat} {D : Nat → Kind} {Q : Act → Env → Prop} {k : Nat} {o : Oper} {rest : List Oper} {a : Act} {E : Env}
theorem E_laidA {mk : Nat → Value} {z : Array Value} {t : TypeId} {i : Nat} (hw : Region.wanted o (yielded ops a.tmps) = true) (hD : D k = .laidBy mk) (hS : (S k).write = some i)
   (hr : ∀ w, (execOp a.eval o).run P w = .ok (.value (mk w.heap.size)) (w.alloc (.cells z t)))
   (hk : ∀ B, wpE P ops β S D Q (k + 1) rest (a.put o.dst (mk B)) (E.put i (B, z))) : wpE P ops β S D Q k (o :: rest) a E := by
 refine .inr ⟨⟨hw, ⟨mk 0, (0, z), by rw [hD]; exact ⟨z, t, hr, rfl, rfl⟩⟩, fun E' he w hv => ?_⟩, fun u x hs => ?_⟩
 · unfold res
   rw [hr w]
   have hm := made_alloc w z t
   refine ⟨(w.heap.size, z), by rw [hD]; exact ⟨z, t, hr, rfl, rfl⟩, ?_⟩
   rw [hS]
   exact hv.lay (Nat.le_refl _) hm.new hm.row hm.soft
 · rw [hD] at hs
   obtain ⟨z', t', h1, rfl, h3⟩ := hs
   have h := (hr β.W).symm.trans (h1 β.W)
   have e : β.W.alloc (.cells z t) = β.W.alloc (.cells z' t') := by injection h
   have ez : z = z' := by
     have g : (β.W.alloc (.cells z t)).rowD β.W.heap.size = (β.W.alloc (.cells z' t')).rowD β.W.heap.size := by rw [e]
     rw [(made_alloc β.W z t).row, (made_alloc β.W z' t').row] at g
     exact g
   rw [hS]
   have ex : x = (x.1, z) := by rw [ez, ← h3]
   rw [ex]
   exact hk x.1
theorem E_bslA {n : Nat} {z : Array Value} {t : TypeId} {i : Nat} (hw : Region.wanted o (yielded ops a.tmps) = true) (hD : D k = .laidBy (fun B => .slice (some ⟨B, 0, none⟩) n n)) (hS : (S k).write = some i)
   (hr : ∀ w, (execOp a.eval o).run P w = .ok (.value (.slice (some ⟨w.heap.size, 0, none⟩) n n)) (w.alloc (.cells z t)))
   (hk : ∀ B, wpE P ops β S D Q (k + 1) rest (a.put o.dst (.slice (some ⟨B, 0, none⟩) n n)) (E.put i (B, z))) : wpE P ops β S D Q k (o :: rest) a E := E_laidA hw hD hS hr hk
end
section
variable {P : Program} {ops : Array Oper} {β : Base} {S : Nat → Stat} {D : Nat → Kind} {Q : Act → Env → Prop} {k : Nat} {rest : List Oper} {a : Act} {E : Env}
variable {dst : Option Tmp} {ty t : TypeId} {pos : String} {after : Array Edge} {g : Option (Nat × Bool)} {x y : Operand}
theorem E_appE {i j : Nat} {x0 : Nat × Array Value} {v : Value} {kk B m : Nat} {c news : List Value} {zs : Array Value} {e : TypeId} (hw : Region.wanted (⟨dst, .call { callee := .builtin .append, args := #[x, y], argTypes := #[t, t] }, ty, pos, after, g⟩ : Oper) (yielded ops a.tmps) = true)
   (hD : D k = .env j (fun zs v x => AppRow v kk (c ++ zs.toList) x)) (hS : (S k).write = some i) (hx : a.eval x = v) (hE : E i = some x0) (hrow : AppRow v kk c x0)
   (hy : a.eval y = .slice (some ⟨B, 0, none⟩) m m) (hj : j ∈ (S k).keys) (hEj : E j = some (B, zs)) (hzs : zs.toList = news) (hm : zs.size = m * kk) (hmm : m ≤ maxLen)
   (z : Value) (bytes : Nat) (ht : P.underlying t = some (.slice e)) (hi : (P.info? e).map (fun i => (i.zero, i.size, i.bytes)) = some (some z, kk, bytes)) (hz : z.cells.size = kk) (hk0 : 0 < kk)
   (h1 : ∀ x ∈ news, x.oneCell' = true) (h63 : (c.length + news.length) / kk ≤ maxLen) (hbytes : (c.length + news.length) / kk * bytes ≤ 140737488355328)
   (hk : ∀ v' x', AppRow v' kk (c ++ news) x' → wpE P ops β S D Q (k + 1) rest (a.put dst v') (E.put i x')) : wpE P ops β S D Q k (⟨dst, .call { callee := .builtin .append, args := #[x, y], argTypes := #[t, t] }, ty, pos, after, g⟩ :: rest) a E := by
 subst hzs
 obtain ⟨i0, hi1, hiz, hsz, hb⟩ := info_parts hi
 have hnl : zs.toList.length = m * kk := by simpa using hm
 have hmem : i ∈ (S k).keys := by unfold Stat.keys; rw [hS]; simp
 refine .inr ⟨⟨hw, ?_, fun E' he w hv => ?_⟩, fun u x' hs => ?_⟩
 · obtain ⟨n, cap, _, g1, _⟩ := hrow
   have hl : (c ++ zs.toList).length = (n + m) * kk := by rw [List.length_append, g1, hnl, Nat.add_mul]
   have : (c.length + zs.toList.length) / kk = n + m := by rw [g1, hnl, ← Nat.add_mul, Nat.mul_div_cancel _ hk0]
   obtain ⟨v', x', hr⟩ := AppRow.some hl (by omega)
   exact ⟨v', x', by rw [hD]; exact ⟨hj, B, zs, hEj, hr⟩⟩
 · have hE' : E' i = Option.some x0 := by rw [he i hmem]; exact hE
   have hEj' : E' j = Option.some (B, zs) := by rw [he j hj]; exact hEj
   obtain ⟨q1, q2, q3⟩ := hv.own i x0.1 x0.2 hE'
   have hu := hv.rd hEj' m kk hm hmm
   obtain ⟨v', w', x', r1, r2, r3⟩ := run_app_row (P := P) (w := w) t ty i0 z bytes ht hi1 hiz hsz hb hz hk0 hrow q1 q2 hu h1 h63 hbytes
   unfold res execOp
   simp only [resolve, invoke, builtin, Sem.run_bind, Sem.run_pure, Result.andThen_ok, List.map_toArray, List.map_cons, List.map_nil, hx, hy, r1]
   refine ⟨x', by rw [hD]; exact ⟨hj, B, zs, hEj', r2⟩, ?_⟩
   rw [hS]
   rcases r3 with ⟨e1, hwr⟩ | ⟨e1, hn, hr, hs⟩
   · have := hv.fill (i := i) (B := x0.1) (c0 := x0.2) hE' hwr
     rw [← e1] at this
     exact this
   · exact hv.lay (Nat.le_of_eq e1.symm) hn hr hs
 · rw [hD] at hs
   obtain ⟨_, B', zs', h2, h3⟩ := hs
   rw [hEj] at h2
   cases h2
   rw [hS]; exact hk u x' h3
theorem E_appnilE {i j : Nat} {kk B m : Nat} {news : List Value} {zs : Array Value} {e : TypeId} (hw : Region.wanted (⟨dst, .call { callee := .builtin .append, args := #[x, y], argTypes := #[t, t] }, ty, pos, after, g⟩ : Oper) (yielded ops a.tmps) = true)
   (hD : D k = .env j (fun zs v x => AppRow v kk zs.toList x)) (hS : (S k).write = some i) (hx : a.eval x = .slice none 0 0)
   (hy : a.eval y = .slice (some ⟨B, 0, none⟩) m m) (hj : j ∈ (S k).keys) (hEj : E j = some (B, zs)) (hzs : zs.toList = news) (hm : zs.size = m * kk) (hmm : m ≤ maxLen) (hne : news ≠ [])
   (z : Value) (bytes : Nat) (ht : P.underlying t = some (.slice e)) (hi : (P.info? e).map (fun i => (i.zero, i.size, i.bytes)) = some (some z, kk, bytes)) (hz : z.cells.size = kk) (hk0 : 0 < kk)
   (h1 : ∀ x ∈ news, x.oneCell' = true) (h63 : news.length / kk ≤ maxLen) (hbytes : news.length / kk * bytes ≤ 140737488355328)
   (hk : ∀ v' x', AppRow v' kk news x' → wpE P ops β S D Q (k + 1) rest (a.put dst v') (E.put i x')) : wpE P ops β S D Q k (⟨dst, .call { callee := .builtin .append, args := #[x, y], argTypes := #[t, t] }, ty, pos, after, g⟩ :: rest) a E := by
 subst hzs
 obtain ⟨i0, hi1, hiz, hsz, hb⟩ := info_parts hi
 have hnl : zs.toList.length = m * kk := by simpa using hm
 refine .inr ⟨⟨hw, ?_, fun E' he w hv => ?_⟩, fun u x' hs => ?_⟩
 · obtain ⟨v', x', hr⟩ := AppRow.some hnl hmm
   exact ⟨v', x', by rw [hD]; exact ⟨hj, B, zs, hEj, hr⟩⟩
 · have hEj' : E' j = Option.some (B, zs) := by rw [he j hj]; exact hEj
   have hu := hv.rd hEj' m kk hm hmm
   obtain ⟨v', w', r1, r2, r3⟩ := run_app_nil (P := P) (w := w) t ty i0 z bytes ht hi1 hiz hsz hb hz hk0 hu h1 h63 hbytes
   unfold res execOp
   simp only [resolve, invoke, builtin, Sem.run_bind, Sem.run_pure, Result.andThen_ok, List.map_toArray, List.map_cons, List.map_nil, hx, hy, r1]
   rcases r3 with ⟨_, h0⟩ | ⟨x', g1, g2, g3, g4⟩
   · exact absurd h0 hne
   · refine ⟨x', by rw [hD]; exact ⟨hj, B, zs, hEj', g1⟩, ?_⟩
     rw [hS]
     exact hv.lay g2 r2 g3 g4
 · rw [hD] at hs
   obtain ⟨_, B', zs', h2, h3⟩ := hs
   rw [hEj] at h2
   cases h2
   rw [hS]; exact hk u x' h3
theorem E_callownA {i : Nat} {xs : Array Operand} {ts : Array TypeId} {f : FuncId} {cap : Array Value} {W : Value → Nat × Array Value → Prop} (hw : Region.wanted (⟨dst, .call { callee := .value x, args := xs, argTypes := ts }, ty, pos, after, g⟩ : Oper) (yielded ops a.tmps) = true)
   (hD : D k = .own W) (hS : (S k).write = some i) (hf : Go.Proofs.Enters P f) (hx : a.eval x = .func (.func f) #[] cap) (vs : List Value) (hv : xs.toList.map a.eval = vs) (hs : ∃ v x, W v x)
   (hc : ∀ E', agree (S k).keys E E' → ∀ w, VE β E' w → Calls P f (vs.toArray ++ cap) w fun e w' => ∃ v x, e = .returned v ∧ W v x ∧ New w w' ∧ w.heap.size ≤ x.1 ∧ w'.rowD x.1 = x.2 ∧ w'.soft x.1 = true)
   (hk : ∀ v x, W v x → wpE P ops β S D Q (k + 1) rest (a.put dst v) (E.put i x)) : wpE P ops β S D Q k (⟨dst, .call { callee := .value x, args := xs, argTypes := ts }, ty, pos, after, g⟩ :: rest) a E := by
 refine E_own hw hD hS hs (fun E' he w hv' => ?_) hk
 unfold res
 rw [run_callv hf hx vs hv w]
 refine (hc E' he w hv').mono fun e w' ⟨v, x, h1, h2, h3, h4, h5, h6⟩ => ⟨v, h1, x, h2, hv'.lay h4 h3 h5 h6⟩
theorem E_build {T : TypeId} {ps : Array (Nat × Operand)} (hw : Region.wanted (⟨dst, .build T ps, ty, pos, after, g⟩ : Oper) (yielded ops a.tmps) = true) (hD : D k = .pure) (hS : (S k).write = none) (vs : List (Nat × Value)) (hp : ps.toList.map (fun p => (p.1, a.eval p.2)) = vs) {cells : Array Value} (h : P.built T vs = some cells)
   (hk : wpE P ops β S D Q (k + 1) rest (a.put dst (.agg cells)) E) : wpE P ops β S D Q k (⟨dst, .build T ps, ty, pos, after, g⟩ :: rest) a E := by
 refine E_pure hw hD hS (fun w => ?_) hk
 have h' := run_build (P := P) w T (ps.map fun (i, x) => (i, a.eval x)) cells (by rw [Array.toList_map, ← h, ← hp])
 unfold execOp
 simp only [Sem.run_bind, h', Result.andThen_ok, Sem.run_pure]
end
end Any
end Go
