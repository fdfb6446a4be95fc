/-
 More rules of the walk over a region that draws its order: append to a slice of the call's own; the region in a round of a loop over an iterator. No program in sight.
-/
import Derived.Test.YthenepdbgeafkaaGAF
import Derived.Test.YthenepdbgeafkaaGAG
import Derived.OrdersIn
import Derived.OwnWalkIn
import Derived.RangeFuncCalls
import Derived.RangeFuncWrites
set_option linter.unusedVariables false
set_option linter.unusedSimpArgs false
namespace Go
namespace Any
open Go.RowKit
theorem VE.rd {β : Base} {w : World} {E : Env} (h : VE β E w) {j B : Nat} {z : Array Value} (hE : E j = some (B, z)) (n k : Nat) (hz : z.size = n * k) (hn : n ≤ maxLen) : Rd w k (.slice (some ⟨B, 0, none⟩) n n) z.toList := by
 obtain ⟨h1, h2, _⟩ := h.own j B z hE
 refine ⟨some ⟨B, 0, none⟩, n, n, rfl, by simpa using hz, Nat.le_refl _, hn, fun h => (by cases h), fun i hi => ⟨_, 0, rfl, soft_lt h2, ?_⟩⟩
 rw [cell_rowD, h1, Nat.zero_add]; simp
theorem AppRow.some {c : List Value} {k n : Nat} (h : c.length = n * k) (hn : n ≤ maxLen) : ∃ v x, AppRow v k c x :=
 ⟨.slice (Option.some ⟨0, 0, none⟩) n n, (0, c.toArray), n, n, rfl, h, Nat.le_refl _, hn, by simpa using h, by simp [← h]⟩
section
variable {P : Program} {ops : Array Oper} {β : Base} {S : Nat → Stat} {D : Nat → Kind} {Q : Act → Env → Prop} {k : Nat} {rest : List Oper} {a : Act} {E : Env}
variable {dst : Option Tmp} {ty t : TypeId} {pos : String} {after : Array Edge} {g : Option (Nat × Bool)} {x y : Operand}
theorem at_eapp (h : wpE P ops β S D Q k (⟨dst, .call { callee := .builtin .append, args := #[x, y], argTypes := #[t, t] }, ty, pos, after, g⟩ :: rest) a E) : wpE P ops β S D Q k (⟨dst, .call { callee := .builtin .append, args := #[x, y], argTypes := #[t, t] }, ty, pos, after, g⟩ :: rest) a E := h
theorem E_app {i j : Nat} {x0 : Nat × Array Value} {v : Value} {kk B m : Nat} {c news : List Value} {zs : Array Value} {e : TypeId} (hw : Region.wanted (⟨dst, .call { callee := .builtin .append, args := #[x, y], argTypes := #[t, t] }, ty, pos, after, g⟩ : Oper) (yielded ops a.tmps) = true)
   (hD : D k = .own (AppRow · kk (c ++ news))) (hS : (S k).write = some i) (hx : a.eval x = v) (hE : E i = some x0) (hrow : AppRow v kk c x0)
   (hy : a.eval y = .slice (some ⟨B, 0, none⟩) m m) (hj : j ∈ (S k).keys) (hEj : E j = some (B, zs)) (hzs : zs.toList = news) (hm : zs.size = m * kk) (hmm : m ≤ maxLen)
   (z : Value) (bytes : Nat) (ht : P.underlying t = some (.slice e)) (hi : (P.info? e).map (fun i => (i.zero, i.size, i.bytes)) = some (some z, kk, bytes)) (hz : z.cells.size = kk) (hk0 : 0 < kk)
   (h1 : ∀ x ∈ news, x.oneCell' = true) (h63 : (c.length + news.length) / kk ≤ maxLen) (hbytes : (c.length + news.length) / kk * bytes ≤ 140737488355328)
   (hk : ∀ v' x', AppRow v' kk (c ++ news) x' → wpE P ops β S D Q (k + 1) rest (a.put dst v') (E.put i x')) : wpE P ops β S D Q k (⟨dst, .call { callee := .builtin .append, args := #[x, y], argTypes := #[t, t] }, ty, pos, after, g⟩ :: rest) a E := by
 obtain ⟨i0, hi1, hiz, hsz, hb⟩ := info_parts hi
 have hnl : news.length = m * kk := by rw [← hzs]; simpa using hm
 have hmem : i ∈ (S k).keys := by unfold Stat.keys; rw [hS]; simp
 refine E_own hw hD hS ?_ (fun E' he w hv => ?_) hk
 · obtain ⟨n, cap, _, g1, _⟩ := hrow
   have hl : (c ++ news).length = (n + m) * kk := by rw [List.length_append, g1, hnl, Nat.add_mul]
   have : (c.length + news.length) / kk = n + m := by rw [g1, hnl, ← Nat.add_mul, Nat.mul_div_cancel _ hk0]
   exact AppRow.some hl (by omega)
 · have hE' : E' i = Option.some x0 := by rw [he i hmem]; exact hE
   have hEj' : E' j = Option.some (B, zs) := by rw [he j hj]; exact hEj
   obtain ⟨q1, q2, q3⟩ := hv.own i x0.1 x0.2 hE'
   have hu := hv.rd hEj' m kk hm hmm
   rw [hzs] at hu
   obtain ⟨v', w', x', r1, r2, r3⟩ := run_app_row (P := P) (w := w) t ty i0 z bytes ht hi1 hiz hsz hb hz hk0 hrow q1 q2 hu h1 h63 hbytes
   unfold res execOp
   simp only [resolve, invoke, builtin, Sem.run_bind, Sem.run_pure, Result.andThen_ok, List.map_toArray, List.map_cons, List.map_nil, hx, hy, r1]
   refine ⟨x', r2, ?_⟩
   rcases r3 with ⟨e1, hwr⟩ | ⟨e1, hn, hr, hs⟩
   · have := hv.fill (i := i) (B := x0.1) (c0 := x0.2) hE' hwr
     rw [← e1] at this
     exact this
   · exact hv.lay (Nat.le_of_eq e1.symm) hn hr hs
theorem E_appnil {i j : Nat} {kk B m : Nat} {news : List Value} {zs : Array Value} {e : TypeId} (hw : Region.wanted (⟨dst, .call { callee := .builtin .append, args := #[x, y], argTypes := #[t, t] }, ty, pos, after, g⟩ : Oper) (yielded ops a.tmps) = true)
   (hD : D k = .own (AppRow · kk news)) (hS : (S k).write = some i) (hx : a.eval x = .slice none 0 0)
   (hy : a.eval y = .slice (some ⟨B, 0, none⟩) m m) (hj : j ∈ (S k).keys) (hEj : E j = some (B, zs)) (hzs : zs.toList = news) (hm : zs.size = m * kk) (hmm : m ≤ maxLen) (hne : news ≠ [])
   (z : Value) (bytes : Nat) (ht : P.underlying t = some (.slice e)) (hi : (P.info? e).map (fun i => (i.zero, i.size, i.bytes)) = some (some z, kk, bytes)) (hz : z.cells.size = kk) (hk0 : 0 < kk)
   (h1 : ∀ x ∈ news, x.oneCell' = true) (h63 : news.length / kk ≤ maxLen) (hbytes : news.length / kk * bytes ≤ 140737488355328)
   (hk : ∀ v' x', AppRow v' kk news x' → wpE P ops β S D Q (k + 1) rest (a.put dst v') (E.put i x')) : wpE P ops β S D Q k (⟨dst, .call { callee := .builtin .append, args := #[x, y], argTypes := #[t, t] }, ty, pos, after, g⟩ :: rest) a E := by
 obtain ⟨i0, hi1, hiz, hsz, hb⟩ := info_parts hi
 have hnl : news.length = m * kk := by rw [← hzs]; simpa using hm
 refine E_own hw hD hS (AppRow.some hnl hmm) (fun E' he w hv => ?_) hk
 have hEj' : E' j = Option.some (B, zs) := by rw [he j hj]; exact hEj
 have hu := hv.rd hEj' m kk hm hmm
 rw [hzs] at hu
 obtain ⟨v', w', r1, r2, r3⟩ := run_app_nil (P := P) (w := w) t ty i0 z bytes ht hi1 hiz hsz hb hz hk0 hu h1 h63 hbytes
 unfold res execOp
 simp only [resolve, invoke, builtin, Sem.run_bind, Sem.run_pure, Result.andThen_ok, List.map_toArray, List.map_cons, List.map_nil, hx, hy, r1]
 rcases r3 with ⟨_, h0⟩ | ⟨x', g1, g2, g3, g4⟩
 · exact absurd h0 hne
 · exact ⟨x', g1, hv.lay g2 r2 g3 g4⟩
end
/-! ### In a round. -/
section
variable {P : Program} {ops : Array Oper} {β : Base} {S : Nat → Stat} {D : Nat → Kind} {l n : Nat}
end
theorem VE.keeps {w0 w w' : World} {L : LV} {E : Env} (hv : Vars w0 w L) (h : VE ⟨w0, w.drewN 1, L.map (·.1)⟩ E w') (B : Nat) : KeepsFrom B w w' := by
 refine ⟨h.size, fun k o _ hk ho => ?_⟩
 have hlt := (Array.getElem?_eq_some_iff.1 hk).1
 refine (h.frame k hlt ?_).trans hk
 intro hX
 obtain ⟨p, hp, rfl⟩ := List.mem_map.1 hX
 obtain ⟨tt, ht⟩ := soft_heap (hv.rows p hp).2.1
 rw [hk] at ht
 cases ht
 cases ho
end Any
end Go
