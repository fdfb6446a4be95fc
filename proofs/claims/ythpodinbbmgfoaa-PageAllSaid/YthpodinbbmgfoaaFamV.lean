/-
  The family of classes that regions want whose operations lay blocks of the call's own and fill them. No program in sight.
-/
import Derived.Test.YthpodinbbmgfoaaFam
namespace Go
namespace Fam
abbrev Blocks := Nat → Option (Nat × Array Value)
def Blocks.none : Blocks := fun _ => Option.none
def Blocks.put (E : Blocks) (i : Nat) (x : Nat × Array Value) : Blocks := fun j => if j = i then some x else E j
theorem Blocks.put_same (E : Blocks) (i : Nat) (x : Nat × Array Value) : E.put i x i = some x := by simp [Blocks.put]
theorem Blocks.put_ne (E : Blocks) {i j : Nat} (x : Nat × Array Value) (h : j ≠ i) : E.put i x j = E j := by simp [Blocks.put, h]
theorem Blocks.put_comm (E : Blocks) {i j : Nat} (h : i ≠ j) (x y : Nat × Array Value) : (E.put i x).put j y = (E.put j y).put i x := by
  funext k; unfold Blocks.put; by_cases h1 : k = i <;> by_cases h2 : k = j <;> simp [h1, h2] <;> omega

/-- The variables L, and the blocks that the region has laid. -/
structure VC (w0 : World) (L : List (Nat × Array Value)) (E : Blocks) (w : World) : Prop where
  vars : Vars w0 w L
  own : ∀ i B c, E i = some (B, c) → w.rowD B = c ∧ w.soft B = true ∧ w0.heap.size ≤ B ∧ B ∉ L.map (·.1)
  apart : ∀ i j B c B' c', i ≠ j → E i = some (B, c) → E j = some (B', c') → B ≠ B'
theorem VC.start {w0 w : World} {L : List (Nat × Array Value)} (h : Vars w0 w L) : VC w0 L Blocks.none w := ⟨h, fun _ _ _ h => (by cases h), fun _ _ _ _ _ _ _ h => (by cases h)⟩
theorem VC.new {w0 w w' : World} {L : List (Nat × Array Value)} {E : Blocks} (h : VC w0 L E w) (hn : New w w') : VC w0 L E w' :=
  ⟨h.vars.new hn, fun i B c e => by
    obtain ⟨h1, h2, h3⟩ := h.own i B c e
    have hl := soft_lt h2
    exact ⟨by rw [hn.row hl]; exact h1, by rw [hn.soft hl]; exact h2, h3⟩, h.apart⟩
theorem VC.alloc {w0 w : World} {L : List (Nat × Array Value)} {E : Blocks} (h : VC w0 L E w) {i : Nat} (z : Array Value) (t : TypeId) : VC w0 L (E.put i (w.heap.size, z)) (w.alloc (.cells z t)) := by
  have hm := made_alloc w z t
  have hn := h.new hm.new
  refine ⟨hn.vars, fun j B c e => ?_, fun j k B c B' c' hjk e e' => ?_⟩
  · by_cases hj : j = i
    · subst hj
      rw [Blocks.put_same] at e
      cases e
      refine ⟨hm.row, hm.soft, h.vars.below.size, fun hc => ?_⟩
      obtain ⟨p, hp, he⟩ := List.mem_map.1 hc
      have := soft_lt (h.vars.rows p hp).2.1
      omega
    · rw [Blocks.put_ne _ _ hj] at e; exact hn.own j B c e
  · have old : ∀ m B c, E m = some (B, c) → B < w.heap.size := fun m B c e => soft_lt (h.own m B c e).2.1
    by_cases hj : j = i
    · subst hj
      rw [Blocks.put_same] at e
      rw [Blocks.put_ne _ _ (Ne.symm hjk)] at e'
      cases e
      have := old _ _ _ e'; omega
    · rw [Blocks.put_ne _ _ hj] at e
      by_cases hk : k = i
      · subst hk
        rw [Blocks.put_same] at e'
        cases e'
        have := old _ _ _ e; omega
      · rw [Blocks.put_ne _ _ hk] at e'; exact h.apart j k B c B' c' hjk e e'
/-- A block of the region's own, filled. -/
theorem VC.fill {w0 w w' : World} {L : List (Nat × Array Value)} {E : Blocks} (h : VC w0 L E w) {i B : Nat} {c0 c : Array Value} (hi : E i = some (B, c0)) (hw : Wrote w w' B c) : VC w0 L (E.put i (B, c)) w' := by
  obtain ⟨_, hs, hge, hnot⟩ := h.own i B c0 hi
  have hv : Vars w0 w' L := by
    refine ⟨hw.below h.vars.below hge, fun p hp => ?_, h.vars.apart⟩
    obtain ⟨h1, h2, h3⟩ := h.vars.rows p hp
    have hne : p.1 ≠ B := fun e => hnot (List.mem_map.2 ⟨p, hp, e⟩)
    exact ⟨by rw [hw.rowO hne]; exact h1, by rw [hw.softO hne]; exact h2, h3⟩
  refine ⟨hv, fun j B' c' e => ?_, fun j k B1 c1 B2 c2 hjk e e' => ?_⟩
  · by_cases hj : j = i
    · subst hj
      rw [Blocks.put_same] at e
      cases e
      exact ⟨hw.row, hw.soft, hge, hnot⟩
    · rw [Blocks.put_ne _ _ hj] at e
      obtain ⟨h1, h2, h3⟩ := h.own j B' c' e
      have hne : B' ≠ B := h.apart j i B' c' B c0 hj e hi
      exact ⟨by rw [hw.rowO hne]; exact h1, by rw [hw.softO hne]; exact h2, h3⟩
  · by_cases hj : j = i
    · subst hj
      rw [Blocks.put_same] at e
      rw [Blocks.put_ne _ _ (Ne.symm hjk)] at e'
      cases e
      exact h.apart j k B c0 B2 c2 hjk hi e'
    · rw [Blocks.put_ne _ _ hj] at e
      by_cases hk : k = i
      · subst hk
        rw [Blocks.put_same] at e'
        cases e'
        exact h.apart j k B1 c1 B c0 hjk e hi
      · rw [Blocks.put_ne _ _ hk] at e'; exact h.apart j k B1 c1 B2 c2 hjk e e'
/-- Behind the region: a block of its own among the variables. -/
theorem VC.take {w0 w : World} {L : List (Nat × Array Value)} {E : Blocks} (h : VC w0 L E w) {i B : Nat} {c : Array Value} (hi : E i = some (B, c)) : Vars w0 w ((B, c) :: L) := by
  obtain ⟨h1, h2, h3, h4⟩ := h.own i B c hi
  refine ⟨h.vars.below, fun p hp => ?_, by rw [List.map_cons, List.nodup_cons]; exact ⟨h4, h.vars.apart⟩⟩
  rcases List.mem_cons.1 hp with rfl | hp
  · exact ⟨h1, h2, h3⟩
  · exact h.vars.rows p hp

/-! ### The plan: blocks laid, blocks filled. -/
inductive Doing where
  | lay (z : Array Value)
  | fill (i : Nat) (c : Array Value)
def Blocks.fill (E : Blocks) (i : Nat) (c : Array Value) : Blocks := match E i with | some x => E.put i (x.1, c) | .none => E
theorem Blocks.fill_of {E : Blocks} {i B : Nat} {c0 : Array Value} (h : E i = some (B, c0)) (c : Array Value) : E.fill i c = E.put i (B, c) := by simp [Blocks.fill, h]
def Doing.step : Doing → Nat → Blocks → Value → Blocks → Prop
  | .lay z, i, E, v, E' => ∃ B, v = .pointer (some ⟨B, 0, none⟩) ∧ E' = E.put i (B, z)
  | .fill j c, _, E, v, E' => v = undef ∧ E' = E.fill j c
def Doing.isLay : Doing → Bool
  | .lay _ => true
  | .fill .. => false
def planV (w0 : World) (L : List (Nat × Array Value)) (D : Nat → Option Doing) (vals : Nat → Value) : Plan Blocks where
  C := VC w0 L
  eff i := (D i).isSome
  vals := vals
  step i E v E' := match D i with | some d => d.step i E v E' | .none => v = undef ∧ E' = E
  free i := match D i with | some d => d.isLay | .none => false
theorem planV_good (w0 : World) (L : List (Nat × Array Value)) (D : Nat → Option Doing) (vals : Nat → Value) : (planV w0 L D vals).Good := by
  constructor
  · intro i E
    show ∃ v E', (match D i with | some d => d.step i E v E' | .none => v = undef ∧ E' = E)
    cases D i with
    | none => exact ⟨_, _, rfl, rfl⟩
    | some d => cases d with
      | lay z => exact ⟨_, _, 0, rfl, rfl⟩
      | fill j c => exact ⟨_, _, rfl, rfl⟩
  · intro i j E u E1 v E2 hi hj hij h1 h2
    have hi' : (match D i with | some d => d.isLay | .none => false) = true := hi
    have hj' : (match D j with | some d => d.isLay | .none => false) = true := hj
    have h1' : (match D j with | some d => d.step j E u E1 | .none => u = undef ∧ E1 = E) := h1
    have h2' : (match D i with | some d => d.step i E1 v E2 | .none => v = undef ∧ E2 = E1) := h2
    show ∃ E1', (match D i with | some d => d.step i E v E1' | .none => v = undef ∧ E1' = E) ∧ (match D j with | some d => d.step j E1' u E2 | .none => u = undef ∧ E2 = E1')
    cases hDi : D i with
    | none => rw [hDi] at hi'; cases hi'
    | some d => cases hDj : D j with
      | none => rw [hDj] at hj'; cases hj'
      | some d' =>
        rw [hDi] at hi' h2'
        rw [hDj] at hj' h1'
        cases d with
        | fill _ _ => cases hi'
        | lay z => cases d' with
          | fill _ _ => cases hj'
          | lay z' =>
            obtain ⟨B, rfl, rfl⟩ := h1'
            obtain ⟨B', rfl, rfl⟩ := h2'
            exact ⟨_, ⟨B', rfl, rfl⟩, ⟨B, rfl, Blocks.put_comm _ (Ne.symm hij) _ _⟩⟩

section
variable {P : Program} {ops : Array Oper} {p : Plan Blocks}
/-- The walk in the text's order, over the list. -/
def wpV (P : Program) (ops : Array Oper) (p : Plan Blocks) (Q : Act → Blocks → Prop) : Nat → List Oper → Act → Blocks → Prop
  | _, [], a, E => Q a E
  | k, o :: rest, a, E =>
    if Region.wanted o (yielded ops a.tmps) then
      match p.val k with
      | some v => (∀ E w, p.C E w → o.quietAt P a (p.C E) w v) ∧ wpV P ops p Q (k + 1) rest (a.put o.dst v) E
      | none => (∀ E', (p.free k = true ∨ E' = E) → ∀ w, p.C E' w → effAt P o a (p.step k E') p.C w) ∧ ∀ v E', p.step k E v E' → wpV P ops p Q (k + 1) rest (a.put o.dst v) E'
    else wpV P ops p Q (k + 1) rest (a.put o.dst undef) E
theorem wpFam_of_V {Q : Act → Blocks → Prop} : ∀ (n k : Nat) (l : List Oper) (a : Act) (E : Blocks), l.length = n → (∀ i, ops[k + i]? = l[i]?) → wpV P ops p Q k l a E → wpFam P ops p Q n k a E := by
  intro n
  induction n with
  | zero =>
    intro k l a E hl _ h
    cases l with
    | nil => exact h
    | cons o r => simp at hl
  | succ n ih =>
    intro k l a E hl ho h
    cases l with
    | nil => simp at hl
    | cons o r =>
      have h0 : ops[k]? = some o := by simpa using ho 0
      have hr : ∀ i, ops[k + 1 + i]? = r[i]? := fun i => by have := ho (i + 1); rw [show k + (i + 1) = k + 1 + i from by omega] at this; simpa using this
      have hln : r.length = n := by simpa using hl
      unfold wpFam fOp
      rw [h0]
      unfold wpV at h
      show if Region.wanted o (yielded ops a.tmps) then _ else _
      by_cases hw : Region.wanted o (yielded ops a.tmps) = true
      · rw [if_pos hw] at h ⊢
        cases hv : p.val k with
        | some v => rw [hv] at h; exact ⟨h.1, ih _ _ _ _ hln hr h.2⟩
        | none => rw [hv] at h; exact ⟨h.1, fun v E' s => ih _ _ _ _ hln hr (h.2 v E' s)⟩
      · rw [if_neg hw] at h ⊢
        exact ih _ _ _ _ hln hr h
/-- Some n values. -/
def someVals : Nat → (List Value → Prop) → Prop
  | 0, p => p []
  | n + 1, p => ∃ v, someVals n (fun l => p (v :: l))
theorem of_someVals {R : Prop} : ∀ (n : Nat) {p : List Value → Prop}, (∀ l, p l → R) → someVals n p → R
  | 0, _, h, hs => h _ hs
  | n + 1, _, h, ⟨v, hs⟩ => of_someVals n (fun l hl => h (v :: l) hl) hs
/-- A REGION THAT DRAWS ITS ORDER AND LAYS BLOCKS OF ITS OWN. -/
theorem wp_region_V {id : Nat} {Q : Exit → Act → World → Prop} {a : Act} {w w0 : World} {L : List (Nat × Array Value)} {l : List Oper} (D : Nat → Option Doing) (hm : P.follows .mixedOrders = true)
    (hB : lexFB .any l.toArray (fun i => (D i).isSome) (fun i => match D i with | some d => d.isLay | .none => false) = true) (hv : Vars w0 w L)
    (h : someVals l.length fun vs => wpV P l.toArray (planV w0 L D (fun i => vs.getD i undef)) (fun a' E' => ∀ w', VC w0 L E' w' → Q .normal a' w') 0 l a Blocks.none) : (Code.region id l.toArray true).wp P Q a w :=
  of_someVals _ (fun vs h => wp_region_fam (planV w0 L D (fun i => vs.getD i undef)) hm (planV_good ..) hB Blocks.none (VC.start (hv.drewN 1)) (wpFam_of_V _ _ _ _ _ rfl (fun i => by simp) h)) h

variable {w0 : World} {L : List (Nat × Array Value)} {D : Nat → Option Doing} {vals : Nat → Value} {Q : Act → Blocks → Prop} {k : Nat} {o : Oper} {rest : List Oper} {a : Act} {E : Blocks}
theorem Act.put_inj {a : Act} {d : Tmp} {u v : Value} (hd : d < a.tmps.size) (h : a.put (some d) u = a.put (some d) v) : u = v := by
  have e : (a.put (some d) u).tmps[d]? = (a.put (some d) v).tmps[d]? := by rw [h]
  simpa [Act.put, hd] using e
/-- A quiet operation: its value does not hang on the region's own blocks. -/
theorem V_quiet {d : Tmp} {v : Value} (hd : o.dst = some d) (hsz : decide (d < a.tmps.size) = true) (hw : Region.wanted o (yielded ops a.tmps) = true) (hD : D k = Option.none)
    (h : ∀ E (K : Act → Prop), (∀ a', a' = a.put o.dst v → K a') → o.quiet P a (VC w0 L E) K) (hv : vals k = v) (hk : wpV P ops (planV w0 L D vals) Q (k + 1) rest (a.put o.dst v) E) : wpV P ops (planV w0 L D vals) Q k (o :: rest) a E := by
  unfold wpV
  rw [if_pos hw]
  have e : (planV w0 L D vals).val k = some v := by unfold Plan.val planV; simp [hD, hv]
  rw [e]
  refine ⟨fun E w hC => ?_, hk⟩
  obtain ⟨u, h1, h2⟩ := h E (fun a' => a' = a.put o.dst v) (fun _ e => e)
  rw [hd] at h2
  have := Act.put_inj (of_decide_eq_true hsz) h2
  rw [← this]; exact h1 w hC
theorem V_skip (hw : Region.wanted o (yielded ops a.tmps) = false) (hk : wpV P ops (planV w0 L D vals) Q (k + 1) rest (a.put o.dst undef) E) : wpV P ops (planV w0 L D vals) Q k (o :: rest) a E := by
  unfold wpV
  rw [if_neg (by rw [hw]; exact Bool.false_ne_true)]; exact hk
/-- A block laid. -/
theorem V_lay {z : Array Value} {t : TypeId} (hw : Region.wanted o (yielded ops a.tmps) = true) (hD : D k = some (.lay z))
    (hr : ∀ w, (execOp a.eval o).run P w = .ok (.value (.pointer (some ⟨w.heap.size, 0, none⟩))) (w.alloc (.cells z t)))
    (hk : ∀ B, wpV P ops (planV w0 L D vals) Q (k + 1) rest (a.put o.dst (.pointer (some ⟨B, 0, none⟩))) (E.put k (B, z))) : wpV P ops (planV w0 L D vals) Q k (o :: rest) a E := by
  unfold wpV
  rw [if_pos hw]
  have e : (planV w0 L D vals).val k = none := by unfold Plan.val planV; simp [hD]
  rw [e]
  refine ⟨fun E' _ w hC => ?_, fun v E' s => ?_⟩
  · unfold effAt
    rw [hr w]
    refine ⟨E'.put k (w.heap.size, z), ?_, VC.alloc hC z t⟩
    show (match D k with | some d => d.step k E' _ _ | .none => _)
    rw [hD]; exact ⟨_, rfl, rfl⟩
  · have s' : (match D k with | some d => d.step k E v E' | .none => v = undef ∧ E' = E) := s
    rw [hD] at s'
    obtain ⟨B, rfl, rfl⟩ := s'
    exact hk B
/-- A block filled. -/
theorem V_fill {j B : Nat} {c0 c : Array Value} (hw : Region.wanted o (yielded ops a.tmps) = true) (hD : D k = some (.fill j c)) (hE : E j = some (B, c0))
    (hr : ∀ w, w.rowD B = c0 → w.soft B = true → ∃ w', (execOp a.eval o).run P w = .ok .skip w' ∧ Wrote w w' B c)
    (hk : wpV P ops (planV w0 L D vals) Q (k + 1) rest (a.put o.dst undef) (E.put j (B, c))) : wpV P ops (planV w0 L D vals) Q k (o :: rest) a E := by
  unfold wpV
  rw [if_pos hw]
  have e : (planV w0 L D vals).val k = none := by unfold Plan.val planV; simp [hD]
  rw [e]
  refine ⟨fun E' hE' w hC => ?_, fun v E' s => ?_⟩
  · have hfr : (planV w0 L D vals).free k = false := by show (match D k with | some d => d.isLay | .none => false) = false; rw [hD]; rfl
    have : E' = E := by rcases hE' with h | h <;> simp_all
    subst this
    have hC' : VC w0 L E' w := hC
    obtain ⟨h1, h2, _⟩ := hC'.own j B c0 hE
    obtain ⟨w', r, hw'⟩ := hr w h1 h2
    unfold effAt
    rw [r]
    refine ⟨E'.put j (B, c), ?_, VC.fill hC' hE hw'⟩
    show (match D k with | some d => d.step k E' _ _ | .none => _)
    rw [hD]; exact ⟨rfl, (Blocks.fill_of hE c).symm⟩
  · have s' : (match D k with | some d => d.step k E v E' | .none => v = undef ∧ E' = E) := s
    rw [hD] at s'
    obtain ⟨rfl, rfl⟩ := s'
    rw [Blocks.fill_of hE]; exact hk
theorem V_nil (h : Q a E) : wpV P ops p Q k [] a E := h
/-- A struct or array by value, into a block: what the store does. -/
theorem run_store_any (w : World) (ty : TypeId) (x y : Operand) (ho : o.op = .store ty x y) (b : Nat) (cells : Array Value) (hx : a.eval x = .pointer (some ⟨b, 0, none⟩)) (hy : a.eval y = .agg cells) (n : Nat) (hi : (P.info? ty).map (·.size) = some n)
    (hc : cells.size = n) (h1 : cells.all (·.oneCell') = true) (hsoft : w.soft b = true) (hs : (w.rowD b).size = n) : ∃ w', (execOp a.eval o).run P w = .ok .skip w' ∧ Wrote w w' b cells := by
  have e := setCells_row cells.toList w b 0 hsoft (by simp; omega)
  have ht : w.there b 0 cells.size := fun j hj => by
    obtain ⟨t, ht⟩ := soft_heap hsoft
    refine ⟨?_, frozen_of_row w b _ _ t ht⟩
    rw [cell_rowD, Array.getElem?_eq_getElem (by omega)]; rfl
  have e2 : splice (w.rowD b) 0 cells = cells := by
    apply Array.ext_getElem?
    intro i
    rw [get_splice _ _ _ (by omega), if_neg (by omega)]
    by_cases hi' : i < cells.size
    · rw [if_pos (by omega)]; simp
    · rw [if_neg (by omega), Array.getElem?_eq_none (by omega), Array.getElem?_eq_none (by omega)]
  refine ⟨w.setRow b cells, ?_, wrote_setRow hsoft⟩
  unfold execOp
  simp only [ho, hx, hy, Instr.storeAt, Instr.sureAddr, Sem.run_bind, Sem.run_pure, Result.andThen_ok, run_storeVar_mid w b 0 ty cells ht (by rw [hc]; exact hi) h1, e]
  rw [Array.toArray_toList, e2]
end
theorem calls_V {P : Program} {f : FuncId} {args : Array Value} {w0 w : World} {v : Value} {L : List (Nat × Array Value)} {E : Blocks} (h : Calls P f args w fun e w' => e = .returned v ∧ New w w') (hv : VC w0 L E w) :
    Calls P f args w fun e w' => e = .returned v ∧ VC w0 L E w' := h.mono fun _ _ ⟨a, b⟩ => ⟨a, hv.new b⟩
end Fam
end Go
