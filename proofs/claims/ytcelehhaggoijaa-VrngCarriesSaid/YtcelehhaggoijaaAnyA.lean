/-
  More rules of the walk over a region that draws its order: append to a slice of the call's own; the region in a round of a loop over an iterator. No program in sight.
-/
import Derived.Test.YtcelehhaggoijaaAnyR
import Derived.Test.YtcelehhaggoijaaOwn
import Derived.OrdersIn
import Derived.OwnWalkIn
import Derived.RangeFuncCalls
import Derived.RangeFuncWrites
set_option linter.unusedVariables false
set_option linter.unusedSimpArgs false
namespace Go
namespace Any
open Go.RowKit
/-- A row read as a slice. -/
theorem VE.rd {β : Base} {w : World} {E : Env} (h : VE β E w) {j B : Nat} {z : Array Value} (hE : E j = some (B, z)) (n k : Nat) (hz : z.size = n * k) (hn : n ≤ maxLen) : Rd w k (.slice (some ⟨B, 0, none⟩) n n) z.toList := by
  obtain ⟨h1, h2, _⟩ := h.own j B z hE
  refine ⟨some ⟨B, 0, none⟩, n, n, rfl, by simpa using hz, Nat.le_refl _, hn, fun h => (by cases h), fun i hi => ⟨_, 0, rfl, soft_lt h2, ?_⟩⟩
  rw [cell_rowD, h1, Nat.zero_add]; simp
theorem AppRow.some {c : List Value} {k n : Nat} (h : c.length = n * k) (hn : n ≤ maxLen) : ∃ v x, AppRow v k c x :=
  ⟨.slice (Option.some ⟨0, 0, none⟩) n n, (0, c.toArray), n, n, rfl, h, Nat.le_refl _, hn, by simpa using h, by simp [← h]⟩
section
variable {P : Program} {ops : Array Oper} {β : Base} {S : Nat → Stat} {D : Nat → Kind} {Q : Act → Env → Prop} {k : Nat} {rest : List Oper} {a : Act} {E : Env}
variable {dst : Option Tmp} {ty t : TypeId} {pos : String} {after : Array Edge} {g : Option (Nat × Bool)} {x y : Operand}
theorem at_eapp (h : wpE P ops β S D Q k (⟨dst, .call { callee := .builtin .append, args := #[x, y], argTypes := #[t, t] }, ty, pos, after, g⟩ :: rest) a E) : wpE P ops β S D Q k (⟨dst, .call { callee := .builtin .append, args := #[x, y], argTypes := #[t, t] }, ty, pos, after, g⟩ :: rest) a E := h
/-- append to a row: v reads c; what is appended stands in variable j. -/
theorem E_app {i j : Nat} {x0 : Nat × Array Value} {v : Value} {kk B m : Nat} {c news : List Value} {zs : Array Value} {e : TypeId} (hw : Region.wanted (⟨dst, .call { callee := .builtin .append, args := #[x, y], argTypes := #[t, t] }, ty, pos, after, g⟩ : Oper) (yielded ops a.tmps) = true)
    (hD : D k = .own (AppRow · kk (c ++ news))) (hS : (S k).write = some i) (hx : a.eval x = v) (hE : E i = some x0) (hrow : AppRow v kk c x0)
    (hy : a.eval y = .slice (some ⟨B, 0, none⟩) m m) (hj : j ∈ (S k).keys) (hEj : E j = some (B, zs)) (hzs : zs.toList = news) (hm : zs.size = m * kk) (hmm : m ≤ maxLen)
    (z : Value) (bytes : Nat) (ht : P.underlying t = some (.slice e)) (hi : (P.info? e).map (fun i => (i.zero, i.size, i.bytes)) = some (some z, kk, bytes)) (hz : z.cells.size = kk) (hk0 : 0 < kk)
    (h1 : ∀ x ∈ news, x.oneCell' = true) (h63 : (c.length + news.length) / kk ≤ maxLen) (hbytes : (c.length + news.length) / kk * bytes ≤ 140737488355328)
    (hk : ∀ v' x', AppRow v' kk (c ++ news) x' → wpE P ops β S D Q (k + 1) rest (a.put dst v') (E.put i x')) : wpE P ops β S D Q k (⟨dst, .call { callee := .builtin .append, args := #[x, y], argTypes := #[t, t] }, ty, pos, after, g⟩ :: rest) a E := by
  obtain ⟨i0, hi1, hiz, hsz, hb⟩ := info_parts hi
  have hnl : news.length = m * kk := by rw [← hzs]; simpa using hm
  have hmem : i ∈ (S k).keys := by unfold Stat.keys; rw [hS]; simp
  refine E_own hw hD hS ?_ (fun E' he w hv => ?_) hk
  · obtain ⟨n, cap, _, g1, _⟩ := hrow
    have hl : (c ++ news).length = (n + m) * kk := by rw [List.length_append, g1, hnl, Nat.add_mul]
    have : (c.length + news.length) / kk = n + m := by rw [g1, hnl, ← Nat.add_mul, Nat.mul_div_cancel _ hk0]
    exact AppRow.some hl (by omega)
  · have hE' : E' i = Option.some x0 := by rw [he i hmem]; exact hE
    have hEj' : E' j = Option.some (B, zs) := by rw [he j hj]; exact hEj
    obtain ⟨q1, q2, q3⟩ := hv.own i x0.1 x0.2 hE'
    have hu := hv.rd hEj' m kk hm hmm
    rw [hzs] at hu
    obtain ⟨v', w', x', r1, r2, r3⟩ := run_app_row (P := P) (w := w) t ty i0 z bytes ht hi1 hiz hsz hb hz hk0 hrow q1 q2 hu h1 h63 hbytes
    unfold res execOp
    simp only [resolve, invoke, builtin, Sem.run_bind, Sem.run_pure, Result.andThen_ok, List.map_toArray, List.map_cons, List.map_nil, hx, hy, r1]
    refine ⟨x', r2, ?_⟩
    rcases r3 with ⟨e1, hwr⟩ | ⟨e1, hn, hr, hs⟩
    · have := hv.fill (i := i) (B := x0.1) (c0 := x0.2) hE' hwr
      rw [← e1] at this
      exact this
    · exact hv.lay (Nat.le_of_eq e1.symm) hn hr hs
/-- .. to the nil slice. -/
theorem E_appnil {i j : Nat} {kk B m : Nat} {news : List Value} {zs : Array Value} {e : TypeId} (hw : Region.wanted (⟨dst, .call { callee := .builtin .append, args := #[x, y], argTypes := #[t, t] }, ty, pos, after, g⟩ : Oper) (yielded ops a.tmps) = true)
    (hD : D k = .own (AppRow · kk news)) (hS : (S k).write = some i) (hx : a.eval x = .slice none 0 0)
    (hy : a.eval y = .slice (some ⟨B, 0, none⟩) m m) (hj : j ∈ (S k).keys) (hEj : E j = some (B, zs)) (hzs : zs.toList = news) (hm : zs.size = m * kk) (hmm : m ≤ maxLen) (hne : news ≠ [])
    (z : Value) (bytes : Nat) (ht : P.underlying t = some (.slice e)) (hi : (P.info? e).map (fun i => (i.zero, i.size, i.bytes)) = some (some z, kk, bytes)) (hz : z.cells.size = kk) (hk0 : 0 < kk)
    (h1 : ∀ x ∈ news, x.oneCell' = true) (h63 : news.length / kk ≤ maxLen) (hbytes : news.length / kk * bytes ≤ 140737488355328)
    (hk : ∀ v' x', AppRow v' kk news x' → wpE P ops β S D Q (k + 1) rest (a.put dst v') (E.put i x')) : wpE P ops β S D Q k (⟨dst, .call { callee := .builtin .append, args := #[x, y], argTypes := #[t, t] }, ty, pos, after, g⟩ :: rest) a E := by
  obtain ⟨i0, hi1, hiz, hsz, hb⟩ := info_parts hi
  have hnl : news.length = m * kk := by rw [← hzs]; simpa using hm
  refine E_own hw hD hS (AppRow.some hnl hmm) (fun E' he w hv => ?_) hk
  have hEj' : E' j = Option.some (B, zs) := by rw [he j hj]; exact hEj
  have hu := hv.rd hEj' m kk hm hmm
  rw [hzs] at hu
  obtain ⟨v', w', r1, r2, r3⟩ := run_app_nil (P := P) (w := w) t ty i0 z bytes ht hi1 hiz hsz hb hz hk0 hu h1 h63 hbytes
  unfold res execOp
  simp only [resolve, invoke, builtin, Sem.run_bind, Sem.run_pure, Result.andThen_ok, List.map_toArray, List.map_cons, List.map_nil, hx, hy, r1]
  rcases r3 with ⟨_, h0⟩ | ⟨x', g1, g2, g3, g4⟩
  · exact absurd h0 hne
  · exact ⟨x', g1, hv.lay g2 r2 g3 g4⟩
end
/-! ### In a round. -/
section
variable {P : Program} {ops : Array Oper} {β : Base} {S : Nat → Stat} {D : Nat → Kind} {l n : Nat}
def noDefer (ops : Array Oper) : Bool := ops.all fun o => match o.op with | .defer _ => false | _ => true
theorem noDefer_spec (h : noDefer ops = true) {i : Nat} {o : Oper} (ho : ops[i]? = some o) : ∀ c, o.op ≠ .defer c := by
  intro c hc
  unfold noDefer at h
  obtain ⟨hi, he⟩ := Array.getElem?_eq_some_iff.1 ho
  have := Array.all_eq_true.1 h i hi
  rw [he, hc] at this
  cases this
theorem wpIn_of_res {o : Oper} {a : Act} {w : World} {R : Value → World → Prop} {K : Act → World → Prop} {Q : Exit → Act → World → Prop} (hnd : ∀ c, o.op ≠ .defer c) (h : res P o a w R) (hk : ∀ v w', R v w' → K (a.put o.dst v) w') : o.wpIn (Fence.wide.inRound l) n P a w K Q := by
  unfold res at h
  unfold Oper.wpIn
  refine ⟨fun _ _ => trivial, ?_⟩
  rw [Oper.semAt_plain _ _ _ hnd]
  generalize (execOp a.eval o).run P w = r at *
  cases r with
  | ok n' w' =>
    cases n' <;> simp only [upon] at h <;> simp only [Oper.uponIn]
    case value v => exact hk _ _ h
    case skip => exact hk _ _ h
    case enter f args =>
      refine ⟨fun hd => by simp [Fence.wide, Fence.inRound] at hd, ?_⟩
      refine (CallsIn.inRound l (callsIn_wide.2 h)).mono fun e w'' ⟨v, he, hr⟩ => ?_
      subst he; exact hk _ _ hr
  | halt x w' => simp only [upon] at h
theorem wpOpIn_of_fOp {i : Nat} {a : Act} {E : Env} {K : Act → Env → Prop} {K' : Act → World → Prop} {Q' : Exit → Act → World → Prop} {w : World} (hnd : noDefer ops = true) (hC : VE β E w) (h : ∀ a E w', VE β E w' → K a E → K' a w') (hh : fOp P ops β S D i K a E) : wpOpIn (Fence.wide.inRound l) n P ops Q' i K' a w := by
  unfold fOp at hh
  unfold wpOpIn
  split
  · rename_i ho; simp only [ho] at hh; exact h _ _ _ hC hh
  · rename_i o ho
    simp only [ho] at hh
    rcases hh with ⟨h1, h2⟩ | ⟨h1, h2⟩
    · have h1' : Region.wanted o (yielded ops a.tmps) = false := h1
      rw [if_neg (by rw [h1']; exact Bool.false_ne_true)]
      exact ⟨fun _ _ => trivial, h _ _ _ hC h2⟩
    · rw [if_pos h1.wanted]
      exact wpIn_of_res (noDefer_spec hnd ho) (h1.ok E (agree.refl _ _) w hC) fun v w' ⟨x, s, hc⟩ => h _ _ _ hc (h2 v x s)
theorem wpAnyIn_of_F {md : Region.Mode} {Q : Act → Env → Prop} {Q' : Exit → Act → World → Prop} (hnd : noDefer ops = true) (hQ : ∀ a E w, VE β E w → Q a E → Q' .normal a w) : ∀ (fuel : Nat) (listed : Array Bool) (a : Act) (E : Env) (w : World), VE β E w →
    wpAnyF P md ops β S D Q fuel listed a E → wpAnyIn (Fence.wide.inRound l) n P md ops Q' fuel listed a w
  | 0, _, _, _, _, hw, h => ⟨h.1, hQ _ _ _ hw h.2⟩
  | fuel + 1, _, _, _, _, hw, h => ⟨fun h0 => hQ _ _ _ hw (h.1 h0), fun i hi => wpOpIn_of_fOp hnd hw (fun a' E' w' hw' => wpAnyIn_of_F hnd hQ fuel _ a' E' w' hw') (h.2 i hi)⟩
/-- A REGION THAT DRAWS ITS ORDER, IN A ROUND. -/
theorem wpIn_region_walk {id : Nat} {Q : Exit → Act → World → Prop} {a : Act} {w0 w : World} {L : List (Nat × Array Value)} {ls : List Oper} (ss : List Stat) (ms : List Mark) (hm : P.follows .mixedOrders = true)
    (hB : (noDefer ls.toArray && lexFB .any ls.toArray (fun i => ss.getD i ⟨[], none⟩)) = true) (hv : Vars w0 w L)
    (h : someVals ls.length fun vs => wpE P ls.toArray ⟨w0, w.drewN 1, L.map (·.1)⟩ (fun i => ss.getD i ⟨[], none⟩) (kindOf ms vs) (fun a' E' => ∀ w', VE ⟨w0, w.drewN 1, L.map (·.1)⟩ E' w' → Q .normal a' w') 0 ls a (Env.of L)) : (Code.region id ls.toArray true).wpIn (Fence.wide.inRound l) n P Q a w := by
  simp only [Bool.and_eq_true] at hB
  obtain ⟨hnd, hB⟩ := hB
  simp only [lexFB, Bool.and_eq_true] at hB
  have hC := VE.start (hv.drewN 1)
  refine of_someVals _ (fun vs h => ?_) h
  refine wpIn_region_any hm (wpAnyIn_of_F (β := ⟨w0, w.drewN 1, L.map (·.1)⟩) (S := fun i => ss.getD i ⟨[], none⟩) (D := kindOf ms vs) (Q := fun a' E' => ∀ w', VE ⟨w0, w.drewN 1, L.map (·.1)⟩ E' w' → Q .normal a' w') hnd (fun _ _ w' hw' h => h w' hw') _ _ _ (Env.of L) _ hC ?_)
  have hsz : ls.toArray.size = ls.length := by simp
  have hlx := hB.2
  rw [hsz] at hlx
  have := wpAnyF_lex (md := .any) ⟨w0, w.drewN 1, L.map (·.1)⟩ (fun i => ss.getD i ⟨[], none⟩) (kindOf ms vs) hB.1 ls.length 0 ls (Array.replicate ls.length false) a (Env.of L) rfl (fun i => by simp) hlx h
  simpa using this
end
/-- What a region kept: whatever is no cells, beyond B. -/
theorem VE.keeps {w0 w w' : World} {L : List (Nat × Array Value)} {E : Env} (hv : Vars w0 w L) (h : VE ⟨w0, w.drewN 1, L.map (·.1)⟩ E w') (B : Nat) : KeepsFrom B w w' := by
  refine ⟨h.size, fun k o _ hk ho => ?_⟩
  have hlt := (Array.getElem?_eq_some_iff.1 hk).1
  refine (h.frame k hlt ?_).trans hk
  intro hX
  obtain ⟨p, hp, rfl⟩ := List.mem_map.1 hX
  obtain ⟨tt, ht⟩ := soft_heap (hv.rows p hp).2.1
  rw [hk] at ht
  cases ht
  cases ho
end Any
end Go
