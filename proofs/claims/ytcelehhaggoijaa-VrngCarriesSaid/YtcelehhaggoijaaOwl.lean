/-
  Slices of the call's own, several of them, nil or a row, beside the call's variables and what is read. No program in sight.
-/
import Derived.Test.YtcelehhaggoijaaSl
set_option linter.unusedVariables false
set_option linter.unusedSimpArgs false
namespace Go
open Go.RowKit
theorem Mem.perm {w0 w : World} {L L' : List (Nat × Array Value)} {R : List (Nat × Value × List Value)} (h : Mem w0 w L R) (hp : L.Perm L') : Mem w0 w L' R :=
  ⟨⟨h.vars.below, fun p hp' => h.vars.rows p (hp.mem_iff.2 hp'), (hp.map (·.1)).nodup_iff.1 h.vars.apart⟩, fun x hx => ⟨(h.rds x hx).1, fun hc b o n cap e p hp' => (h.rds x hx).2 hc b o n cap e p (hp.mem_iff.2 hp')⟩⟩
theorem Mem.lay' {w0 w w' : World} {L : List (Nat × Array Value)} {R : List (Nat × Value × List Value)} (h : Mem w0 w L R) {x : Nat × Array Value} (hB : w.heap.size ≤ x.1) (hn : New w w') (hr : w'.rowD x.1 = x.2) (hs : w'.soft x.1 = true) : Mem w0 w' (x :: L) R :=
  ⟨h.vars.lay hB hn hr hs, fun y hy => by
    obtain ⟨h1, h2⟩ := h.rds y hy
    refine ⟨h1.new hn, fun hc b o n cap e p hp => ?_⟩
    rcases List.mem_cons.1 hp with rfl | hp
    · rw [e] at h1
      have := h1.lt hc
      omega
    · exact h2 hc b o n cap e p hp⟩
/-- The slice value v is the call's own and reads c: nil, or the row O. -/
def OwnL (k : Nat) (v : Value) (c : List Value) (O : List (Nat × Array Value)) : Prop := (v = .slice none 0 0 ∧ c = [] ∧ O = []) ∨ ∃ x, AppRow v k c x ∧ O = [x]
theorem OwnL.nil (k : Nat) : OwnL k (.slice none 0 0) [] [] := .inl ⟨rfl, rfl, rfl⟩
theorem OwnL.row {k : Nat} {v : Value} {c : List Value} {x : Nat × Array Value} (h : AppRow v k c x) : OwnL k v c [x] := .inr ⟨x, h, rfl⟩
theorem OwnL.slice {k : Nat} {v : Value} {c : List Value} {O : List (Nat × Array Value)} (h : OwnL k v c O) : ∃ ao n cap, v = .slice ao n cap ∧ c.length = n * k := by
  rcases h with ⟨rfl, rfl, _⟩ | ⟨x, ⟨n, cap, rfl, h, _⟩, _⟩
  · exact ⟨none, 0, 0, rfl, by simp⟩
  · exact ⟨_, n, cap, rfl, h⟩
theorem OwnL.rd {w0 w : World} {A B O : List (Nat × Array Value)} {R : List (Nat × Value × List Value)} {k : Nat} {v : Value} {c : List Value} (h : OwnL k v c O) (hv : Mem w0 w (A ++ O ++ B) R) : Rd w k v c := by
  rcases h with ⟨rfl, rfl, rfl⟩ | ⟨x, hx, rfl⟩
  · exact Rd.nil _ _
  · exact (hx.fr hv.vars (by simp)).1
/-- Given away: it is read from now on. -/
theorem OwnL.yield {w0 w : World} {A B O : List (Nat × Array Value)} {R : List (Nat × Value × List Value)} {k : Nat} {v : Value} {c : List Value} (h : OwnL k v c O) (hv : Mem w0 w (A ++ O ++ B) R) : Mem w0 w (A ++ B) ((k, v, c) :: R) := by
  rcases h with ⟨rfl, rfl, rfl⟩ | ⟨x, hx, rfl⟩
  · rw [List.append_nil] at hv
    exact hv.fresh (Below.refl _ _) (FR.nil _ _ k)
  · rw [List.append_assoc] at hv
    exact Mem.yield hv hx
/-- A slice literal, laid just now: it is read from now on. -/
theorem Mem.bsl' {w0 w w' : World} {L : List (Nat × Array Value)} {R : List (Nat × Value × List Value)} {b k n : Nat} {z : Array Value} {c : List Value} (h : Mem w0 w L R) (hm : MadeAt w w' b z) (hz : z.toList = c) (hn : z.size = n * k) (hl : n ≤ maxLen) : Mem w0 w' L ((k, .slice (some ⟨b, 0, none⟩) n n, c) :: R) := by
  have h1 := h.madeAt hm
  refine Mem.yield (L1 := []) h1 ⟨n, n, rfl, by rw [← hz]; simpa using hn, Nat.le_refl _, hl, hn, ?_⟩
  rw [← hz, ← hn, List.take_of_length_le (by simp)]
theorem perm4 {α : Type} (a b c d : α) (O L : List α) : (a :: b :: c :: d :: (O ++ L)).Perm (b :: c :: d :: (O ++ a :: L)) := by
  have h := (List.perm_middle (l₁ := b :: c :: d :: O) (a := a) (l₂ := L)).symm
  simpa using h
theorem perm_mid {α : Type} (A B : List α) (x : α) : (A ++ [x] ++ B).Perm (x :: (A ++ B)) := by
  rw [List.append_assoc]
  exact List.perm_middle
section
variable {P : Program} {ops : Array Oper} {rest : List Oper} {a : Act} {w0 w : World} {Q : Exit → Act → World → Prop} {A B O : List (Nat × Array Value)} {R : List (Nat × Value × List Value)}
variable {dst : Option Tmp} {ty t e : TypeId} {pos : String} {after : Array Edge} {g : Option (Nat × Bool)} {x y : Operand} {k : Nat}
/-- append to a slice of the call's own, wherever it stands. -/
theorem wl_appO (hgd : Region.wanted (⟨dst, .call { callee := .builtin .append, args := #[x, y], argTypes := #[t, t] }, ty, pos, after, g⟩ : Oper) (yielded ops a.tmps) = true) {v : Value} {c : List Value} (hx : a.eval x = v) (hO : OwnL k v c O) (hv : Mem w0 w (A ++ O ++ B) R) (z : Value) (bytes : Nat) (ht : P.underlying t = some (.slice e))
    (hi : (P.info? e).map (fun i => (i.zero, i.size, i.bytes)) = some (some z, k, bytes)) (hzs : z.cells.size = k) (hk : 0 < k) {u : Value} (hy : a.eval y = u) {news : List Value} (hu : Rd w k u news) (h1 : ∀ x ∈ news, x.oneCell' = true)
    (h63 : (c.length + news.length) / k ≤ maxLen) (hbytes : (c.length + news.length) / k * bytes ≤ 140737488355328)
    (hn : ∀ v' w' O', OwnL k v' (c ++ news) O' → Mem w0 w' (A ++ O' ++ B) R → wpList P ops Q rest (a.put dst v') w') : wpList P ops Q (⟨dst, .call { callee := .builtin .append, args := #[x, y], argTypes := #[t, t] }, ty, pos, after, g⟩ :: rest) a w := by
  rcases hO with ⟨rfl, rfl, rfl⟩ | ⟨x0, hrow, rfl⟩
  · obtain ⟨i, hi1, hz, hsz, hb⟩ := info_parts hi
    rw [List.append_nil] at hv
    obtain ⟨v', w', r1, r2, r3⟩ := run_app_nil (P := P) (w := w) t ty i z bytes ht hi1 hz hsz hb hzs hk hu h1 (by simpa using h63) (by simpa using hbytes)
    refine wpList_want hgd fun K hK => ?_
    unfold Oper.wp execOp
    simp only [resolve, invoke, builtin, Sem.run_bind, Sem.run_pure, Result.andThen_ok, List.map_toArray, List.map_cons, List.map_nil, hx, hy, r1]
    rcases r3 with ⟨e1, h0⟩ | ⟨x', g1, g2, g3, g4⟩
    · refine hK _ _ (hn v' w' [] ?_ (by rw [List.append_nil]; exact hv.new r2))
      rw [e1, h0]; exact OwnL.nil k
    · refine hK _ _ (hn v' w' [x'] (by rw [List.nil_append]; exact OwnL.row g1) ((hv.lay' g2 r2 g3 g4).perm (perm_mid A B x').symm))
  · exact wl_apph hgd hx (hv.perm (perm_mid A B x0)) hrow z bytes ht hi hzs hk hy hu h1 h63 hbytes fun v' w' x' hr hm => hn v' w' [x'] (OwnL.row hr) (hm.perm (perm_mid A B x').symm)
/-- A struct built of its fields. -/
theorem wl_build {T : TypeId} {ps : Array (Nat × Operand)} (hgd : Region.wanted (⟨dst, .build T ps, ty, pos, after, g⟩ : Oper) (yielded ops a.tmps) = true) (vs : List (Nat × Value)) (hp : ps.toList.map (fun p => (p.1, a.eval p.2)) = vs) {cells : Array Value} (h : P.built T vs = some cells) (hk : wpList P ops Q rest (a.put dst (.agg cells)) w) : wpList P ops Q (⟨dst, .build T ps, ty, pos, after, g⟩ :: rest) a w := by
  refine wpList_want hgd fun K hK => ?_
  have h' := run_build (P := P) w T (ps.map fun (i, x) => (i, a.eval x)) cells (by rw [Array.toList_map, ← h, ← hp])
  unfold Oper.wp execOp
  simp only [Sem.run_bind, h', Result.andThen_ok, Sem.run_pure]
  exact hK _ _ hk
/-- s[l:h:m], the value as it is. -/
theorem wl_sliceV {T : TypeId} {xl xh xm : Operand} (hgd : Region.wanted (⟨dst, .slice T x (some xl) (some xh) (some xm), ty, pos, after, g⟩ : Oper) (yielded ops a.tmps) = true) {ao : Option Addr} {n cap : Nat} (hx : a.eval x = .slice ao n cap) (ht : P.underlying T = some (.slice e)) (hi0 : (P.info? e).map (·.size) = some k)
    (l h m : Nat) {kl kh km : IntKind} (hl : a.eval xl = .int kl (l : Nat)) (hh : a.eval xh = .int kh (h : Nat)) (hmm : a.eval xm = .int km (m : Nat)) (h0 : l ≤ h) (h2 : h ≤ m) (h3 : m ≤ cap) {v : Value} (hv : sliced ao l h m k = v)
    (hk : wpList P ops Q rest (a.put dst v) w) : wpList P ops Q (⟨dst, .slice T x (some xl) (some xh) (some xm), ty, pos, after, g⟩ :: rest) a w := by
  subst hv
  refine wpList_want hgd fun K hK => ?_
  have hr := run_part (w := w) (ao := ao) (n := n) (cap := cap) ht hi0 (some (.int kl (l : Nat))) (some (.int kh (h : Nat))) (some (.int km (m : Nat))) l h m (bounds_lhm h0 h2 h3)
  unfold Oper.wp execOp
  simp only [Sem.run_bind, hx, hl, hh, hmm, Option.map_some, hr, Result.andThen_ok, Sem.run_pure]
  exact hK _ _ hk
end
end Go
