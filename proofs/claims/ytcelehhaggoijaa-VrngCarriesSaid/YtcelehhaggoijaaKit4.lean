/-
  append to a row, in a region that draws: what is appended was there when the region began. No program in sight.
-/
import Derived.Test.YtcelehhaggoijaaKit3
set_option linter.unusedVariables false
set_option linter.unusedSimpArgs false
namespace Go
namespace Any
open Go.RowKit
section
variable {P : Program} {ops : Array Oper} {β : Base} {S : Nat → Stat} {D : Nat → Kind} {Q : Act → Env → Prop} {k : Nat} {rest : List Oper} {a : Act} {E : Env}
variable {dst : Option Tmp} {ty t : TypeId} {pos : String} {after : Array Edge} {g : Option (Nat × Bool)} {x y : Operand}
/-- An empty row. -/
theorem AppRow.zero (B kk : Nat) : AppRow (.slice (Option.some ⟨B, 0, none⟩) 0 0) kk [] (B, #[]) :=
  ⟨0, 0, rfl, by simp, Nat.le_refl _, Nat.zero_le _, by simp, by simp⟩
theorem E_apprd {i : Nat} {x0 : Nat × Array Value} {v u : Value} {kk : Nat} {c news : List Value} {e : TypeId} (hw : Region.wanted (⟨dst, .call { callee := .builtin .append, args := #[x, y], argTypes := #[t, t] }, ty, pos, after, g⟩ : Oper) (yielded ops a.tmps) = true)
    (hD : D k = .own (AppRow · kk (c ++ news))) (hS : (S k).write = some i) (hx : a.eval x = v) (hE : E i = some x0) (hrow : AppRow v kk c x0)
    (hy : a.eval y = u) (hu : Rd β.W kk u news ∧ (news ≠ [] → ∀ b o n' cap, u = .slice (some ⟨b, o, none⟩) n' cap → b ∉ β.X))
    (z : Value) (bytes : Nat) (ht : P.underlying t = some (.slice e)) (hi : (P.info? e).map (fun i => (i.zero, i.size, i.bytes)) = some (some z, kk, bytes)) (hz : z.cells.size = kk) (hk0 : 0 < kk)
    (h1 : ∀ x ∈ news, x.oneCell' = true) (h63 : (c.length + news.length) / kk ≤ maxLen) (hbytes : (c.length + news.length) / kk * bytes ≤ 140737488355328)
    (hk : ∀ v' x', AppRow v' kk (c ++ news) x' → wpE P ops β S D Q (k + 1) rest (a.put dst v') (E.put i x')) : wpE P ops β S D Q k (⟨dst, .call { callee := .builtin .append, args := #[x, y], argTypes := #[t, t] }, ty, pos, after, g⟩ :: rest) a E := by
  obtain ⟨i0, hi1, hiz, hsz, hb⟩ := info_parts hi
  have hmem : i ∈ (S k).keys := by unfold Stat.keys; rw [hS]; simp
  refine E_own hw hD hS ?_ (fun E' he w hv => ?_) hk
  · obtain ⟨n, cap, _, g1, _⟩ := hrow
    obtain ⟨_, m, _, _, hl, _⟩ := hu.1
    have hl2 : (c ++ news).length = (n + m) * kk := by rw [List.length_append, g1, hl, Nat.add_mul]
    have : (c.length + news.length) / kk = n + m := by rw [g1, hl, ← Nat.add_mul, Nat.mul_div_cancel _ hk0]
    exact AppRow.some hl2 (by omega)
  · have hE' : E' i = Option.some x0 := by rw [he i hmem]; exact hE
    obtain ⟨q1, q2, q3⟩ := hv.own i x0.1 x0.2 hE'
    have hu' := hv.rdold hu.1 hu.2
    obtain ⟨v', w', x', r1, r2, r3⟩ := run_app_row (P := P) (w := w) t ty i0 z bytes ht hi1 hiz hsz hb hz hk0 hrow q1 q2 hu' h1 h63 hbytes
    unfold res execOp
    simp only [resolve, invoke, builtin, Sem.run_bind, Sem.run_pure, Result.andThen_ok, List.map_toArray, List.map_cons, List.map_nil, hx, hy, r1]
    refine ⟨x', r2, ?_⟩
    rcases r3 with ⟨e1, hwr⟩ | ⟨e1, hn, hr, hs⟩
    · have := hv.fill (i := i) (B := x0.1) (c0 := x0.2) hE' hwr
      rw [← e1] at this
      exact this
    · exact hv.lay (Nat.le_of_eq e1.symm) hn hr hs
end
end Any
section
open Go.RowKit
variable {P : Program} {ops : Array Oper} {rest : List Oper} {a : Act} {w0 w : World} {Q : Exit → Act → World → Prop} {L : List (Nat × Array Value)} {R : List (Nat × Value × List Value)}
variable {dst : Option Tmp} {ty t e : TypeId} {pos : String} {after : Array Edge} {g : Option (Nat × Bool)} {x y : Operand} {k : Nat}
/-- append to the row that is the call's first variable. -/
theorem wl_apph (hgd : Region.wanted (⟨dst, .call { callee := .builtin .append, args := #[x, y], argTypes := #[t, t] }, ty, pos, after, g⟩ : Oper) (yielded ops a.tmps) = true) {v : Value} {c : List Value} {x0 : Nat × Array Value} (hx : a.eval x = v) (hv : Mem w0 w (x0 :: L) R) (hrow : AppRow v k c x0) (z : Value) (bytes : Nat) (ht : P.underlying t = some (.slice e))
    (hi : (P.info? e).map (fun i => (i.zero, i.size, i.bytes)) = some (some z, k, bytes)) (hzs : z.cells.size = k) (hk : 0 < k) {u : Value} (hy : a.eval y = u) {news : List Value} (hu : Rd w k u news) (h1 : ∀ x ∈ news, x.oneCell' = true)
    (h63 : (c.length + news.length) / k ≤ maxLen) (hbytes : (c.length + news.length) / k * bytes ≤ 140737488355328)
    (hn : ∀ v' w' x', AppRow v' k (c ++ news) x' → Mem w0 w' (x' :: L) R → wpList P ops Q rest (a.put dst v') w') : wpList P ops Q (⟨dst, .call { callee := .builtin .append, args := #[x, y], argTypes := #[t, t] }, ty, pos, after, g⟩ :: rest) a w := by
  obtain ⟨i, hi1, hz, hsz, hb⟩ := info_parts hi
  obtain ⟨q1, q2, q3⟩ := hv.vars.rows x0 (List.mem_cons_self ..)
  obtain ⟨v', w', x', r1, r2, r3⟩ := run_app_row (P := P) (w := w) t ty i z bytes ht hi1 hz hsz hb hzs hk hrow q1 q2 hu h1 h63 hbytes
  refine wpList_want hgd fun K hK => ?_
  unfold Oper.wp execOp
  simp only [resolve, invoke, builtin, Sem.run_bind, Sem.run_pure, Result.andThen_ok, List.map_toArray, List.map_cons, List.map_nil, hx, hy, r1]
  refine hK _ _ (hn v' w' x' r2 ?_)
  rcases r3 with ⟨e1, hwr⟩ | ⟨e1, hnw, hr, hs⟩
  · have := hv.set 0 rfl hwr
    have e2 : x' = (x0.1, x'.2) := by rw [← e1]
    rw [e2]; exact this
  · have hm : MadeAt w w' w.heap.size x'.2 := ⟨rfl, ⟨hnw, by rw [← e1]; exact hr, by rw [← e1]; exact hs⟩⟩
    have := (hv.madeAt hm).keep (L' := (w.heap.size, x'.2) :: L) ((List.sublist_cons_self x0 L).cons_cons _)
    have e2 : x' = (w.heap.size, x'.2) := by rw [← e1]
    rw [e2]; exact this
end
end Go
