/-
  A region that draws: append of a slice that is read; a region cut at a call, with one operation that may come before or behind it. No program in sight.
-/
import Derived.Test.YtcelehhaggoijaaAnyC
set_option linter.unusedVariables false
set_option linter.unusedSimpArgs false
namespace Go
open Go.RowKit
theorem run_app_nil0 {P : Program} {w : World} {e : TypeId} {k : Nat} (t ty : TypeId) (i : TypeInfo) (ht : P.underlying t = some (.slice e)) (hi : P.info? e = some i) (hk : 0 < k) {u : Value} (hu : Rd w k u []) :
    (Builtin.append_ #[t, t] ty #[.slice none 0 0, u]).run P w = .ok (.slice none 0 0) w := by
  obtain ⟨ao, m, mc, rfl, hl, hmc, hcm, hnone, hcell⟩ := hu
  have hm : m = 0 := by
    rcases Nat.eq_zero_or_pos m with h | h
    · exact h
    · have := Nat.mul_pos h hk
      simp at hl; omega
  subst hm
  cases ao with
  | none =>
    obtain ⟨_, rfl⟩ := hnone rfl
    exact run_append_owned_none (P := P) w w.heap.size t ty e i k ht hi _ 0 [] (World.ownsRow_nil _ _ _ _)
  | some a =>
    have hf := run_firstCells_some (P := P) w i.size 0 a 0 mc [] (by simp) (by simp)
    simp [Builtin.append_, run_underlying ht, sizeOf, typeInfo, hi, hf, storeCells, Builtin.lenOf]
/-- Beside variables that the region does not touch, behind a region that began at w itself. -/
theorem Any.VE.memr0 {w0 w w9 : World} {L1 L : List (Nat × Array Value)} {R : List (Nat × Value × List Value)} {E : Any.Env} (h : Any.VE ⟨w0, w, L1.map (·.1)⟩ E w9) (hm : Mem w0 w (L1 ++ L) R) (ks : List Nat) (hn : ks.Nodup) : Mem w0 w9 (ks.filterMap E ++ L) R := by
  have hm1 : Mem w0 w L1 R := hm.keep (List.sublist_append_left _ _)
  have h1 := h.mem0 hm1 ks hn
  have ha := hm.vars.apart
  rw [List.map_append, List.nodup_append] at ha
  have old : ∀ p ∈ L, p.1 < w.heap.size ∧ p.1 ∉ L1.map (·.1) := fun p hp =>
    ⟨soft_lt (hm.vars.rows p (List.mem_append_right _ hp)).2.1, fun hX => ha.2.2 p.1 hX p.1 (List.mem_map_of_mem hp) rfl⟩
  refine ⟨⟨h1.vars.below, fun p hp => ?_, ?_⟩, fun x hx => ⟨(h1.rds x hx).1, fun hc b o n cap e p hp => ?_⟩⟩
  · rcases List.mem_append.1 hp with hp | hp
    · exact h1.vars.rows p hp
    · obtain ⟨g1, g2, g3⟩ := hm.vars.rows p (List.mem_append_right _ hp)
      obtain ⟨o1, o2⟩ := old p hp
      have hf := h.frame p.1 o1 o2
      exact ⟨(rowD_congr hf).trans g1, (soft_congr hf).trans g2, g3⟩
  · rw [List.map_append, List.nodup_append]
    refine ⟨h1.vars.apart, ha.2.1, fun a ha' c hc e => ?_⟩
    subst e
    obtain ⟨p, hp, rfl⟩ := List.mem_map.1 ha'
    obtain ⟨p', hp', e'⟩ := List.mem_map.1 hc
    obtain ⟨i, _, hi⟩ := List.mem_filterMap.1 hp
    obtain ⟨o1, o2⟩ := old p' hp'
    rcases h.inX i p.1 p.2 hi with g | g
    · exact o2 (by rw [e']; exact g)
    · simp only at g
      have : w.heap.size ≤ p.1 := g
      omega
  · rcases List.mem_append.1 hp with hp | hp
    · exact (h1.rds x hx).2 hc b o n cap e p hp
    · exact (hm.rds x hx).2 hc b o n cap e p (List.mem_append_right _ hp)
namespace Any
section
variable {P : Program} {ops : Array Oper} {β : Base} {S : Nat → Stat} {D : Nat → Kind} {Q : Act → Env → Prop} {k : Nat} {rest : List Oper} {a : Act} {E : Env}
variable {dst : Option Tmp} {ty t e : TypeId} {pos : String} {after : Array Edge} {g : Option (Nat × Bool)} {x y : Operand}
/-- append of a slice that is read, to a row. -/
theorem E_appR {i : Nat} {x0 : Nat × Array Value} {v u : Value} {kk : Nat} {c news : List Value} (hw : Region.wanted (⟨dst, .call { callee := .builtin .append, args := #[x, y], argTypes := #[t, t] }, ty, pos, after, g⟩ : Oper) (yielded ops a.tmps) = true)
    (hD : D k = .own (AppRow · kk (c ++ news))) (hS : (S k).write = some i) (hx : a.eval x = v) (hE : E i = some x0) (hrow : AppRow v kk c x0)
    (hy : a.eval y = u) (hr : Rd β.W kk u news ∧ (news ≠ [] → ∀ b o n cap, u = .slice (some ⟨b, o, none⟩) n cap → b ∉ β.X))
    (z : Value) (bytes : Nat) (ht : P.underlying t = some (.slice e)) (hi : (P.info? e).map (fun i => (i.zero, i.size, i.bytes)) = some (some z, kk, bytes)) (hz : z.cells.size = kk) (hk0 : 0 < kk)
    (h1 : ∀ x ∈ news, x.oneCell' = true) (h63 : (c.length + news.length) / kk ≤ maxLen) (hbytes : (c.length + news.length) / kk * bytes ≤ 140737488355328)
    (hk : ∀ v' x', AppRow v' kk (c ++ news) x' → wpE P ops β S D Q (k + 1) rest (a.put dst v') (E.put i x')) : wpE P ops β S D Q k (⟨dst, .call { callee := .builtin .append, args := #[x, y], argTypes := #[t, t] }, ty, pos, after, g⟩ :: rest) a E := by
  obtain ⟨i0, hi1, hiz, hsz, hb⟩ := info_parts hi
  have hmem : i ∈ (S k).keys := by unfold Stat.keys; rw [hS]; simp
  refine E_own hw hD hS ?_ (fun E' he w hv => ?_) hk
  · obtain ⟨n, cap, _, g1, _⟩ := hrow
    obtain ⟨_, m, _, _, hnl, _⟩ := hr.1
    have hl : (c ++ news).length = (n + m) * kk := by rw [List.length_append, g1, hnl, Nat.add_mul]
    have : (c.length + news.length) / kk = n + m := by rw [g1, hnl, ← Nat.add_mul, Nat.mul_div_cancel _ hk0]
    exact AppRow.some hl (by omega)
  · have hE' : E' i = Option.some x0 := by rw [he i hmem]; exact hE
    obtain ⟨q1, q2, q3⟩ := hv.own i x0.1 x0.2 hE'
    have hu := hv.rdold hr.1 hr.2
    obtain ⟨v', w', x', r1, r2, r3⟩ := run_app_row (P := P) (w := w) t ty i0 z bytes ht hi1 hiz hsz hb hz hk0 hrow q1 q2 hu h1 h63 hbytes
    unfold res execOp
    simp only [resolve, invoke, builtin, Sem.run_bind, Sem.run_pure, Result.andThen_ok, List.map_toArray, List.map_cons, List.map_nil, hx, hy, r1]
    refine ⟨x', r2, ?_⟩
    rcases r3 with ⟨e1, hwr⟩ | ⟨e1, hn, hr, hs⟩
    · have := hv.fill (i := i) (B := x0.1) (c0 := x0.2) hE' hwr
      rw [← e1] at this
      exact this
    · exact hv.lay (Nat.le_of_eq e1.symm) hn hr hs
/-- .. to the nil slice. -/
theorem E_appnilR {i : Nat} {u : Value} {kk : Nat} {news : List Value} (hw : Region.wanted (⟨dst, .call { callee := .builtin .append, args := #[x, y], argTypes := #[t, t] }, ty, pos, after, g⟩ : Oper) (yielded ops a.tmps) = true)
    (hD : D k = .own (AppRow · kk news)) (hS : (S k).write = some i) (hx : a.eval x = .slice none 0 0)
    (hy : a.eval y = u) (hr : Rd β.W kk u news ∧ (news ≠ [] → ∀ b o n cap, u = .slice (some ⟨b, o, none⟩) n cap → b ∉ β.X)) (hne : news ≠ [])
    (z : Value) (bytes : Nat) (ht : P.underlying t = some (.slice e)) (hi : (P.info? e).map (fun i => (i.zero, i.size, i.bytes)) = some (some z, kk, bytes)) (hz : z.cells.size = kk) (hk0 : 0 < kk)
    (h1 : ∀ x ∈ news, x.oneCell' = true) (h63 : news.length / kk ≤ maxLen) (hbytes : news.length / kk * bytes ≤ 140737488355328)
    (hk : ∀ v' x', AppRow v' kk news x' → wpE P ops β S D Q (k + 1) rest (a.put dst v') (E.put i x')) : wpE P ops β S D Q k (⟨dst, .call { callee := .builtin .append, args := #[x, y], argTypes := #[t, t] }, ty, pos, after, g⟩ :: rest) a E := by
  obtain ⟨i0, hi1, hiz, hsz, hb⟩ := info_parts hi
  obtain ⟨_, m, _, _, hnl, _⟩ := id hr.1
  have hmm : m ≤ maxLen := by
    have : news.length / kk = m := by rw [hnl, Nat.mul_div_cancel _ hk0]
    omega
  refine E_own hw hD hS (AppRow.some hnl hmm) (fun E' he w hv => ?_) hk
  have hu := hv.rdold hr.1 hr.2
  obtain ⟨v', w', r1, r2, r3⟩ := run_app_nil (P := P) (w := w) t ty i0 z bytes ht hi1 hiz hsz hb hz hk0 hu h1 h63 hbytes
  unfold res execOp
  simp only [resolve, invoke, builtin, Sem.run_bind, Sem.run_pure, Result.andThen_ok, List.map_toArray, List.map_cons, List.map_nil, hx, hy, r1]
  rcases r3 with ⟨_, h0⟩ | ⟨x', g1, g2, g3, g4⟩
  · exact absurd h0 hne
  · exact ⟨x', g1, hv.lay g2 r2 g3 g4⟩
/-- Nothing appended to the nil slice. -/
theorem q_appnil0 {K : Act → Prop} {E' : Env} {u : Value} {kk : Nat} (hx : a.eval x = .slice none 0 0) (hy : a.eval y = u) (hr : Rd β.W kk u []) (ht : P.underlying t = some (.slice e)) (hi : (P.info? e).isSome = true) (hk0 : 0 < kk)
    (hk : K (a.put dst (.slice none 0 0))) : Oper.quiet P ⟨dst, .call { callee := .builtin .append, args := #[x, y], argTypes := #[t, t] }, ty, pos, after, g⟩ a (VE β E') K := by
  refine ⟨_, fun w hw => ?_, hk⟩
  obtain ⟨i0, hi0⟩ := Option.isSome_iff_exists.1 hi
  have hu := hw.rdold hr (fun h => absurd rfl h)
  have r1 := run_app_nil0 (P := P) (w := w) t ty i0 ht hi0 hk0 hu
  unfold Oper.quietAt execOp
  simp only [resolve, invoke, builtin, Sem.run_bind, Sem.run_pure, Result.andThen_ok, List.map_toArray, List.map_cons, List.map_nil, hx, hy, r1]
  exact ⟨rfl, rfl⟩
end
section
variable {P : Program} {ops : Array Oper} {md : Region.Mode} (β : Base) (S : Nat → Stat) (D : Nat → Kind)
/-- The text's order, some operations left out: m names the k-th. -/
def lexFm (md : Region.Mode) (ops : Array Oper) (S : Nat → Stat) (m : Nat → Nat) : Nat → Nat → Array Bool → Bool
  | 0, _, listed => (Region.ready md ops listed).isEmpty
  | n + 1, k, listed => (Region.ready md ops listed).contains (m k) && Region.free md ops listed (m k) && exB md ops S listed (m k) && lexFm md ops S m n (k + 1) (listed.setIfInBounds (m k) true)
theorem wpAnyF_lexm {Q : Act → Env → Prop} (m : Nat → Nat) (hs : Region.noSelect ops = true) : ∀ (n k : Nat) (l : List Oper) (listed : Array Bool) (a : Act) (E : Env), l.length = n → (∀ i, i < n → ops[m (k + i)]? = l[i]?) →
    lexFm md ops S m n k listed = true → wpE P ops β (fun k => S (m k)) (fun k => D (m k)) Q k l a E → wpAnyF P md ops β S D Q n listed a E
  | 0, _, l, _, _, _, hl, _, hB, h => by
    cases l with
    | nil => exact ⟨by simpa [lexFm] using hB, h⟩
    | cons o r => simp at hl
  | n + 1, k, l, listed, a, E, hl, ho, hB, h => by
    cases l with
    | nil => simp at hl
    | cons o r =>
      have h0 : ops[m k]? = some o := by simpa using ho 0 (by omega)
      have hr' : ∀ i, i < n → ops[m (k + 1 + i)]? = r[i]? := fun i hi => by have := ho (i + 1) (by omega); rw [show k + (i + 1) = k + 1 + i from by omega] at this; simpa using this
      have hln : r.length = n := by simpa using hl
      simp only [lexFm, Bool.and_eq_true] at hB
      obtain ⟨⟨⟨hr, hf⟩, hx⟩, hB'⟩ := hB
      have hr2 : m k ∈ Region.ready md ops listed := by simpa using hr
      have hfree := Region.free_spec h0 hf
      unfold wpE at h
      rcases h with ⟨ho1, hk⟩ | ⟨hg, hk⟩
      · exact first_off β S D h0 (Region.noSelect_spec hs) n listed a E hfree hr2 ho1 (wpAnyF_lexm m hs n (k + 1) r (listed.setIfInBounds (m k) true) _ E hln hr' hB' hk)
      · exact first_good β S D h0 (fun j => (behind md ops (m k)).getD j false) (exB_T S hx).2 (Region.noSelect_spec hs) n listed a E (exB_T S hx).1 (fun j oj hj hne hun hno => ⟨hfree j oj hj hne hun (behind_no (listed := listed) hj hno), exB_spec S hx hj hne hun hno⟩) hr2 hg
          (fun v x s => wpAnyF_lexm m hs n (k + 1) r (listed.setIfInBounds (m k) true) _ _ hln hr' hB' (hk v x s))
theorem fOp_of_wpE {i : Nat} {o : Oper} {K : Act → Env → Prop} {a : Act} {E : Env} (hi : ops[i]? = some o) (h : wpE P ops β (fun _ => S i) (fun _ => D i) K 0 [o] a E) : fOp P ops β S D i K a E := by
  unfold fOp
  simp only [hi]
  exact h
end
/-- A REGION THAT DRAWS ITS ORDER, CUT AT A CALL c; the operation d waits for nothing and nothing that comes before c waits for it. -/
theorem wp_region_cut2 {P : Program} {id : Nat} {Q : Exit → Act → World → Prop} {a : Act} {w0 w : World} {L : List (Nat × Array Value)} {l : List Oper} (c d : Nat) (ss : List Stat) (ms : List Mark) (sd : Stat) (zd : Array Value) (hm : P.follows .mixedOrders = true)
    (hB : (decide (c + 1 < l.length) && decide (d < l.length) && Region.noSelect l.toArray && lexC .any l.toArray (fun i => if i = d then sd else ss.getD i ⟨[], none⟩) c c 0 (Array.replicate l.length false) && (Region.ready .any l.toArray (marks c 0 (Array.replicate l.length false)) == [c, d]) && (Region.ready .any l.toArray ((marks c 0 (Array.replicate l.length false)).setIfInBounds d true) == [c])) = true) (hdd : d ≠ c) (hcd : c < d) (hv : Vars w0 w L)
    (h : someVals c fun vs => wpE P l.toArray ⟨w0, w.drewN 1, L.map (·.1)⟩ (fun i => if i = d then sd else ss.getD i ⟨[], none⟩) (fun i => if i = d then .own (laid (fun B => .pointer (some ⟨B, 0, none⟩)) zd) else kindOf ms vs i) (fun a' E' =>
      (∀ w', VE ⟨w0, w.drewN 1, L.map (·.1)⟩ E' w' → wpOp P l.toArray Q c (wpAny P .any l.toArray Q (l.length - (c + 1)) (marks (c + 1) 0 (Array.replicate l.length false))) a' w') ∧
      wpE P l.toArray ⟨w0, w.drewN 1, L.map (·.1)⟩ (fun _ => sd) (fun _ => .own (laid (fun B => .pointer (some ⟨B, 0, none⟩)) zd)) (fun a' E' => ∀ w', VE ⟨w0, w.drewN 1, L.map (·.1)⟩ E' w' →
        wpOp P l.toArray Q c (wpAny P .any l.toArray Q (l.length - (c + 2)) (((marks c 0 (Array.replicate l.length false)).setIfInBounds d true).setIfInBounds c true)) a' w') 0 ((l.drop d).take 1) a' E') 0 (l.take c) a (Env.of L)) : (Code.region id l.toArray true).wp P Q a w := by
  simp only [Bool.and_eq_true, decide_eq_true_eq, beq_iff_eq] at hB
  obtain ⟨⟨⟨⟨⟨hc, hdl⟩, hs⟩, hl⟩, hr⟩, hr2⟩ := hB
  have hod : l.toArray[d]? = some l[d] := by rw [List.getElem?_toArray, List.getElem?_eq_getElem hdl]
  have htk : (l.drop d).take 1 = [l[d]] := by rw [List.drop_eq_getElem_cons hdl]; rfl
  refine of_someVals _ (fun vs h => ?_) h
  have hC := VE.start (hv.drewN 1)
  have hsz : l.toArray.size = l.length := by simp
  have hmk : ∀ (n k : Nat) (x : Array Bool), marks (n + 1) k x = (marks n k x).setIfInBounds (k + n) true := by
    intro n
    induction n with
    | zero => intro k x; rfl
    | succ n ih =>
      intro k x
      show marks (n + 1) (k + 1) (x.setIfInBounds k true) = _
      rw [ih (k + 1)]
      show _ = (marks n (k + 1) (x.setIfInBounds k true)).setIfInBounds (k + (n + 1)) true
      rw [show k + 1 + n = k + (n + 1) from by omega]
  refine wp_region_any hm (wpAny_of_C ⟨w0, w.drewN 1, L.map (·.1)⟩ (fun i => if i = d then sd else ss.getD i ⟨[], none⟩) (fun i => if i = d then .own (laid (fun B => .pointer (some ⟨B, 0, none⟩)) zd) else kindOf ms vs i) (c := c) _ _ _ (Env.of L) _ hC ?_)
  rw [hsz]
  have key := wpAnyC_lex (P := P) (md := .any) (c := c) (H := fun fuel listed a w => wpOp P l.toArray Q c (wpAny P .any l.toArray Q fuel (listed.setIfInBounds c true)) a w) ⟨w0, w.drewN 1, L.map (·.1)⟩ (fun i => if i = d then sd else ss.getD i ⟨[], none⟩) (fun i => if i = d then .own (laid (fun B => .pointer (some ⟨B, 0, none⟩)) zd) else kindOf ms vs i) (l.length - (c + 1) + 1) hs c 0 (l.take c) (Array.replicate l.length false) a (Env.of L) (by rw [List.length_take]; omega) (fun i hi => by simp [List.getElem?_take, hi]) hl
  rw [show c + (l.length - (c + 1) + 1) = l.length from by omega] at key
  refine key ?_
  have hmono : ∀ (S : Nat → Stat) (D : Nat → Kind) (k : Nat) (r : List Oper) (a : Act) (E : Env) {Q1 Q2 : Act → Env → Prop}, (∀ a E, Q1 a E → Q2 a E) → wpE P l.toArray ⟨w0, w.drewN 1, L.map (·.1)⟩ S D Q1 k r a E → wpE P l.toArray ⟨w0, w.drewN 1, L.map (·.1)⟩ S D Q2 k r a E := by
    intro S D k r
    induction r generalizing k with
    | nil => intro a E Q1 Q2 hq h; exact hq a E h
    | cons o r ih =>
      intro a E Q1 Q2 hq h
      unfold wpE at h ⊢
      rcases h with ⟨h1, h2⟩ | ⟨h1, h2⟩
      · exact .inl ⟨h1, ih _ _ _ hq h2⟩
      · exact .inr ⟨h1, fun v x s => ih _ _ _ hq (h2 v x s)⟩
  refine hmono _ _ 0 (l.take c) a (Env.of L) (fun a' E' hh => ?_) h
  have e := hmk c 0 (Array.replicate l.length false)
  rw [Nat.zero_add] at e
  refine wpAnyC_two (d := d) _ _ _ hr hdd (fun w' hw' => by rw [← e]; exact hh.1 w' hw') ?_
  have h2 := hh.2
  rw [htk] at h2
  refine fOp_of_wpE _ _ _ hod ?_
  simp only [if_pos]
  refine hmono _ _ 0 [l[d]] a' E' (fun a2 E2 hh2 => ?_) h2
  rw [show l.length - (c + 1) = (l.length - (c + 2)) + 1 from by omega]
  exact wpAnyC_at _ _ _ hr2 fun w' hw' => hh2 w' hw'
/-- What comes behind, some operations done already. -/
theorem wpAny_restm {P : Program} {Q : Exit → Act → World → Prop} {a : Act} {w0 w : World} {L : List (Nat × Array Value)} {l : List Oper} (n : Nat) (m r : Nat → Nat) (l2 : List Oper) (listed : Array Bool) (ss : List Stat) (ms : List Mark)
    (hB : (Region.noSelect l.toArray && lexFm .any l.toArray (fun i => ss.getD (r i) ⟨[], none⟩) m n 0 listed) = true) (hl : l2.length = n) (hm : ∀ i, i < n → l.toArray[m (0 + i)]? = l2[i]?) (hv : Vars w0 w L)
    (h : someVals n fun vs => wpE P l.toArray ⟨w0, w, L.map (·.1)⟩ (fun i => ss.getD (r (m i)) ⟨[], none⟩) (fun i => kindOf ms vs (r (m i))) (fun a' E' => ∀ w', VE ⟨w0, w, L.map (·.1)⟩ E' w' → Q .normal a' w') 0 l2 a (Env.of L)) :
    wpAny P .any l.toArray Q n listed a w := by
  simp only [Bool.and_eq_true] at hB
  refine of_someVals _ (fun vs h => ?_) h
  refine wpAny_of_F ⟨w0, w, L.map (·.1)⟩ (fun i => ss.getD (r i) ⟨[], none⟩) (fun i => kindOf ms vs (r i)) (Q := fun a' E' => ∀ w', VE ⟨w0, w, L.map (·.1)⟩ E' w' → Q .normal a' w') (fun _ _ w' hw' h => h w' hw') _ _ _ (Env.of L) _ (VE.start hv) ?_
  exact wpAnyF_lexm (md := .any) _ _ _ m hB.1 n 0 l2 _ a (Env.of L) hl hm hB.2 h
/-- What comes behind the call c, the operation d done already. -/
theorem wpAny_skip {P : Program} {Q : Exit → Act → World → Prop} {a : Act} {w0 w : World} {L : List (Nat × Array Value)} {l : List Oper} (c d : Nat) (ss : List Stat) (ms : List Mark) (hcd : c < d) (hd : d < l.length)
    (hB : (Region.noSelect l.toArray && lexFm .any l.toArray (fun j => ss.getD (if j < d then j - (c + 1) else j - (c + 2)) ⟨[], none⟩) (fun i => if i < d - (c + 1) then c + 1 + i else c + 2 + i) (l.length - (c + 2)) 0 (((marks c 0 (Array.replicate l.length false)).setIfInBounds d true).setIfInBounds c true)) = true) (hv : Vars w0 w L)
    (h : someVals (l.length - (c + 2)) fun vs => wpE P l.toArray ⟨w0, w, L.map (·.1)⟩ (fun i => ss.getD i ⟨[], none⟩) (kindOf ms vs) (fun a' E' => ∀ w', VE ⟨w0, w, L.map (·.1)⟩ E' w' → Q .normal a' w') 0 ((l.drop (c + 1)).take (d - (c + 1)) ++ l.drop (d + 1)) a (Env.of L)) :
    wpAny P .any l.toArray Q (l.length - (c + 2)) (((marks c 0 (Array.replicate l.length false)).setIfInBounds d true).setIfInBounds c true) a w := by
  have hrm : ∀ i, (if (if i < d - (c + 1) then c + 1 + i else c + 2 + i) < d then (if i < d - (c + 1) then c + 1 + i else c + 2 + i) - (c + 1) else (if i < d - (c + 1) then c + 1 + i else c + 2 + i) - (c + 2)) = i := fun i => by
    by_cases h1 : i < d - (c + 1)
    · rw [if_pos h1, if_pos (by omega)]; omega
    · rw [if_neg h1, if_neg (by omega)]; omega
  refine wpAny_restm (l.length - (c + 2)) (fun i => if i < d - (c + 1) then c + 1 + i else c + 2 + i) (fun j => if j < d then j - (c + 1) else j - (c + 2)) ((l.drop (c + 1)).take (d - (c + 1)) ++ l.drop (d + 1)) _ ss ms hB ?_ (fun i hi => ?_) hv ?_
  · simp only [List.length_append, List.length_take, List.length_drop]
    omega
  · simp only [Nat.zero_add]
    have hl1 : ((l.drop (c + 1)).take (d - (c + 1))).length = d - (c + 1) := by simp only [List.length_take, List.length_drop]; omega
    by_cases h1 : i < d - (c + 1)
    · rw [if_pos h1, List.getElem?_append_left (by omega), List.getElem?_take, if_pos h1, List.getElem?_drop, List.getElem?_toArray]
    · rw [if_neg h1, List.getElem?_append_right (by omega), hl1, List.getElem?_drop, List.getElem?_toArray]
      congr 1
      omega
  · simp only [hrm]
    exact h
end Any
end Go
