import Derived.Test.YthenepdbgeafkaaGAE
set_option linter.unusedSimpArgs false
set_option linter.unusedVariables false
section
/-
 A region that draws its order: one walk in the text's order serves every order, where each operation says ahead which variables it reads and which one it writes. No program in sight.
-/
namespace Go
open Go.RowKit
namespace Any
abbrev Env := Nat → Option (Nat × Array Value)
def Env.put (E : Env) (i : Nat) (x : Nat × Array Value) : Env := fun j => if j = i then some x else E j
theorem Env.put_same (E : Env) (i : Nat) (x : Nat × Array Value) : E.put i x i = some x := by simp [Env.put]
theorem Env.put_ne (E : Env) {i j : Nat} (x : Nat × Array Value) (h : j ≠ i) : E.put i x j = E j := by simp [Env.put, h]
theorem Env.put_comm (E : Env) {i j : Nat} (h : i ≠ j) (x y : Nat × Array Value) : (E.put i x).put j y = (E.put j y).put i x := by
 funext k; unfold Env.put; by_cases h1 : k = i <;> by_cases h2 : k = j <;> simp [h1, h2] <;> omega
def Env.of (L : LV) : Env := fun k => if k < 1000 then none else L[k - 1000]?
structure Base where
 w0 : World
 W : World
 X : List Nat
structure VE (β : Base) (E : Env) (w : World) : Prop where
 below : Below β.w0.heap.size β.w0 w
 own : ∀ i B c, E i = some (B, c) → w.rowD B = c ∧ w.soft B = true ∧ β.w0.heap.size ≤ B
 apart : ∀ i j B c B' c', i ≠ j → E i = some (B, c) → E j = some (B', c') → B ≠ B'
 size : β.W.heap.size ≤ w.heap.size
 frame : ∀ k, k < β.W.heap.size → k ∉ β.X → w.heap[k]? = β.W.heap[k]?
 inX : ∀ i B c, E i = some (B, c) → B ∈ β.X ∨ β.W.heap.size ≤ B
theorem VE.start {w0 w : World} {L : LV} (h : Vars w0 w L) : VE ⟨w0, w, L.map (·.1)⟩ (Env.of L) w := by
 refine ⟨h.below, fun i B c e => ?_, fun i j B c B' c' hij e e' => ?_, Nat.le_refl _, fun _ _ _ => rfl, fun i B c e => ?_⟩
 · unfold Env.of at e
   split at e
   · cases e
   · exact h.rows _ (List.mem_of_getElem? e)
 · unfold Env.of at e e'
   split at e
   · cases e
   · split at e'
     · cases e'
     · intro hb
       subst hb
       have a1 : (L.map (·.1))[i - 1000]? = some B := by rw [List.getElem?_map, e]; rfl
       have a2 : (L.map (·.1))[j - 1000]? = some B := by rw [List.getElem?_map, e']; rfl
       obtain ⟨l1, e1⟩ := List.getElem?_eq_some_iff.1 a1
       obtain ⟨l2, e2⟩ := List.getElem?_eq_some_iff.1 a2
       have := (List.getElem_inj h.apart).1 (e1.trans e2.symm)
       omega
 · unfold Env.of at e
   split at e
   · cases e
   · exact .inl (List.mem_map.2 ⟨_, List.mem_of_getElem? e, rfl⟩)
theorem VE.new {β : Base} {w w' : World} {E : Env} (h : VE β E w) (hn : New w w') : VE β E w' :=
 ⟨Below.trans h.below (hn.mono h.below.size), fun i B c e => by
   obtain ⟨h1, h2, h3⟩ := h.own i B c e
   have hl := soft_lt h2
   exact ⟨by rw [hn.row hl]; exact h1, by rw [hn.soft hl]; exact h2, h3⟩, h.apart, Nat.le_trans h.size hn.size, fun k hk hX => (hn.block k (Nat.lt_of_lt_of_le hk h.size)).trans (h.frame k hk hX), h.inX⟩
theorem VE.lay {β : Base} {w w' : World} {E : Env} (h : VE β E w) {i B : Nat} {z : Array Value} (hB : w.heap.size ≤ B) (hn : New w w') (hr : w'.rowD B = z) (hs : w'.soft B = true) : VE β (E.put i (B, z)) w' := by
 have hv := h.new hn
 have hsz := h.below.size
 have hsz2 := h.size
 refine ⟨hv.below, fun j B' c e => ?_, fun j k B1 c B' c' hjk e e' => ?_, hv.size, hv.frame, fun j B' c e => ?_⟩
 · by_cases hj : j = i
   · subst hj
     rw [Env.put_same] at e
     cases e
     exact ⟨hr, hs, by omega⟩
   · rw [Env.put_ne _ _ hj] at e; exact hv.own j B' c e
 · have old : ∀ m B c, E m = some (B, c) → B < w.heap.size := fun m B c e => soft_lt (h.own m B c e).2.1
   by_cases hj : j = i
   · subst hj
     rw [Env.put_same] at e
     rw [Env.put_ne _ _ (Ne.symm hjk)] at e'
     cases e
     have := old _ _ _ e'; omega
   · rw [Env.put_ne _ _ hj] at e
     by_cases hk : k = i
     · subst hk
       rw [Env.put_same] at e'
       cases e'
       have := old _ _ _ e; omega
     · rw [Env.put_ne _ _ hk] at e'; exact h.apart j k B1 c B' c' hjk e e'
 · by_cases hj : j = i
   · subst hj
     rw [Env.put_same] at e
     cases e
     exact .inr (by omega)
   · rw [Env.put_ne _ _ hj] at e; exact h.inX j B' c e
theorem VE.fill {β : Base} {w w' : World} {E : Env} (h : VE β E w) {i B : Nat} {c0 c : Array Value} (hi : E i = some (B, c0)) (hw : Wrote w w' B c) : VE β (E.put i (B, c)) w' := by
 obtain ⟨_, hs, hge⟩ := h.own i B c0 hi
 refine ⟨hw.below h.below hge, fun j B' c' e => ?_, fun j k B1 c1 B2 c2 hjk e e' => ?_, by rw [hw.size]; exact h.size, fun k hk hX => ?_, fun j B' c' e => ?_⟩
 · by_cases hj : j = i
   · subst hj
     rw [Env.put_same] at e
     cases e
     exact ⟨hw.row, hw.soft, hge⟩
   · rw [Env.put_ne _ _ hj] at e
     obtain ⟨h1, h2, h3⟩ := h.own j B' c' e
     have hne : B' ≠ B := h.apart j i B' c' B c0 hj e hi
     exact ⟨by rw [hw.rowO hne]; exact h1, by rw [hw.softO hne]; exact h2, h3⟩
 · by_cases hj : j = i
   · subst hj
     rw [Env.put_same] at e
     rw [Env.put_ne _ _ (Ne.symm hjk)] at e'
     cases e
     exact h.apart j k B c0 B2 c2 hjk hi e'
   · rw [Env.put_ne _ _ hj] at e
     by_cases hk : k = i
     · subst hk
       rw [Env.put_same] at e'
       cases e'
       exact h.apart j k B1 c1 B c0 hjk e hi
     · rw [Env.put_ne _ _ hk] at e'; exact h.apart j k B1 c1 B2 c2 hjk e e'
 · refine (hw.other k (fun e => ?_)).trans (h.frame k hk hX)
   subst e
   rcases h.inX i k c0 hi with h1 | h1
   · exact hX h1
   · omega
 · by_cases hj : j = i
   · subst hj
     rw [Env.put_same] at e
     cases e
     exact h.inX j B c0 hi
   · rw [Env.put_ne _ _ hj] at e; exact h.inX j B' c' e
theorem VE.vars {β : Base} {w : World} {E : Env} (h : VE β E w) (ks : List Nat) (hn : ks.Nodup) : Vars β.w0 w (ks.filterMap E) := by
 refine ⟨h.below, fun p hp => ?_, ?_⟩
 · obtain ⟨k, _, hk⟩ := List.mem_filterMap.1 hp
   exact h.own k p.1 p.2 hk
 · induction ks with
   | nil => simp
   | cons k ks ih =>
     rw [List.nodup_cons] at hn
     cases hk : E k with
     | none => rw [List.filterMap_cons_none hk]; exact ih hn.2
     | some x =>
       rw [List.filterMap_cons_some hk, List.map_cons, List.nodup_cons]
       refine ⟨fun hm => ?_, ih hn.2⟩
       obtain ⟨y, hy, e⟩ := List.mem_map.1 hm
       obtain ⟨j, hj, hj2⟩ := List.mem_filterMap.1 hy
       exact h.apart j k y.1 y.2 x.1 x.2 (fun e => hn.1 (by rw [← e]; exact hj)) hj2 hk e

/-! ### One operation. -/
section
variable {P : Program} {ops : Array Oper} {md : Region.Mode}
def upon (P : Program) (R : Value → World → Prop) : Result Next → Prop
 | .ok (.value v) w' => R v w'
 | .ok .skip w' => R undef w'
 | .ok (.enter f args) w' => Calls P f args w' fun e w'' => ∃ v, e = .returned v ∧ R v w''
 | _ => False
def res (P : Program) (o : Oper) (a : Act) (w : World) (R : Value → World → Prop) : Prop := upon P R ((execOp a.eval o).run P w)
theorem wp_of_res {o : Oper} {a : Act} {w : World} {R : Value → World → Prop} {K : Act → World → Prop} {Q : Exit → Act → World → Prop} (h : res P o a w R) (hk : ∀ v w', R v w' → K (a.put o.dst v) w') : o.wp P a w K Q := by
 unfold res at h
 unfold Oper.wp
 generalize (execOp a.eval o).run P w = r at *
 cases r with
 | ok n w' =>
   cases n <;> simp only [upon] at h <;> simp only [Oper.upon]
   case value v => exact hk _ _ h
   case skip => exact hk _ _ h
   case enter f args => exact h.mono fun e w'' ⟨v, he, hr⟩ => by subst he; exact hk _ _ hr
 | halt x w' => simp only [upon] at h
theorem res_mono {o : Oper} {a : Act} {w : World} {R R' : Value → World → Prop} (h : res P o a w R) (hk : ∀ v w', R v w' → R' v w') : res P o a w R' := by
 unfold res at *
 generalize (execOp a.eval o).run P w = r at *
 cases r with
 | ok n w' =>
   cases n <;> simp only [upon] at h ⊢
   case value v => exact hk _ _ h
   case skip => exact hk _ _ h
   case enter f args => exact h.mono fun e w'' ⟨v, he, hr⟩ => ⟨v, he, hk _ _ hr⟩
 | halt x w' => simp only [upon] at h

structure Stat where
 reads : List Nat
 write : Option Nat
def Stat.keys (s : Stat) : List Nat := s.reads ++ s.write.toList
def Stat.ind (s t : Stat) : Bool := (s.write.toList.all fun k => !t.keys.contains k) && (t.write.toList.all fun k => !s.keys.contains k)
def agree (ks : List Nat) (E E' : Env) : Prop := ∀ k ∈ ks, E' k = E k
theorem agree.refl (ks : List Nat) (E : Env) : agree ks E E := fun _ _ => rfl
theorem agree.symm {ks : List Nat} {E E' : Env} (h : agree ks E E') : agree ks E' E := fun k hk => (h k hk).symm
theorem agree.trans {ks : List Nat} {E E' E2 : Env} (h : agree ks E E') (h2 : agree ks E' E2) : agree ks E E2 := fun k hk => (h2 k hk).trans (h k hk)
inductive Kind where
 | val (v : Value)
 | rel (V : Value → Prop)
 | pure
 | own (W : Value → Nat × Array Value → Prop)
 | laidBy (mk : Nat → Value)
 | env (j : Nat) (W : Array Value → Value → Nat × Array Value → Prop)
 | put
def Env.upd (E : Env) (k : Option Nat) (x : Nat × Array Value) : Env := match k with | none => E | some k => E.put k x
def spec (P : Program) (s : Stat) (K : Kind) (o : Oper) (a : Act) (E : Env) (v : Value) (x : Nat × Array Value) : Prop := match K with
 | .val u => v = u
 | .rel V => V v
 | .pure => ∃ w, (execOp a.eval o).run P w = .ok (.value v) w
 | .own W => W v x
 | .laidBy mk => ∃ z t, (∀ w, (execOp a.eval o).run P w = .ok (.value (mk w.heap.size)) (w.alloc (.cells z t))) ∧ v = mk x.1 ∧ x.2 = z
 | .env j W => j ∈ s.keys ∧ ∃ B zs, E j = some (B, zs) ∧ W zs v x
 | .put => v = undef ∧ ∃ T px py off c0 k, s.write = some k ∧ o.op = .store T px py ∧ a.eval px = .pointer (some ⟨x.1, off, none⟩) ∧ E k = some (x.1, c0) ∧ x.2 = splice c0 off (a.eval py).cells

variable (β : Base) (S : Nat → Stat) (D : Nat → Kind)
def Valid (P : Program) (β : Base) (s : Stat) (K : Kind) (o : Oper) (a : Act) (E : Env) : Prop :=
 ∀ E', agree s.keys E E' → ∀ w, VE β E' w → res P o a w fun v w' => ∃ x, spec P s K o a E' v x ∧ VE β (E'.upd s.write x) w'
def Off (ops : Array Oper) (o : Oper) (a : Act) : Prop := Region.wanted o (yielded ops a.tmps) = false
structure Good (P : Program) (ops : Array Oper) (β : Base) (s : Stat) (K : Kind) (o : Oper) (a : Act) (E : Env) : Prop where
 wanted : Region.wanted o (yielded ops a.tmps) = true
 some : ∃ v x, spec P s K o a E v x
 ok : Valid P β s K o a E
def fOp (P : Program) (ops : Array Oper) (β : Base) (S : Nat → Stat) (D : Nat → Kind) (i : Nat) (K : Act → Env → Prop) (a : Act) (E : Env) : Prop :=
 match ops[i]? with
 | none => K a E
 | some o => (Off ops o a ∧ K (a.put o.dst undef) E) ∨
     (Good P ops β (S i) (D i) o a E ∧ ∀ v x, spec P (S i) (D i) o a E v x → K (a.put o.dst v) (E.upd (S i).write x))
theorem fOp_mono {i : Nat} {a : Act} {E : Env} {K K' : Act → Env → Prop} (h : ∀ a E, K a E → K' a E) (hh : fOp P ops β S D i K a E) : fOp P ops β S D i K' a E := by
 unfold fOp at *
 split
 · rename_i ho; simp only [ho] at hh; exact h _ _ hh
 · rename_i o ho
   simp only [ho] at hh
   rcases hh with ⟨h1, h2⟩ | ⟨h1, h2⟩
   · exact .inl ⟨h1, h _ _ h2⟩
   · exact .inr ⟨h1, fun v x s => h _ _ (h2 v x s)⟩
def wpAnyF (P : Program) (md : Region.Mode) (ops : Array Oper) (β : Base) (S : Nat → Stat) (D : Nat → Kind) (Q : Act → Env → Prop) : Nat → Array Bool → Act → Env → Prop
 | 0, listed, a, E => Region.ready md ops listed = [] ∧ Q a E
 | fuel + 1, listed, a, E =>
   (Region.ready md ops listed = [] → Q a E) ∧
   ∀ i ∈ Region.ready md ops listed, fOp P ops β S D i (wpAnyF P md ops β S D Q fuel (listed.setIfInBounds i true)) a E
theorem wpOp_of_fOp {i : Nat} {a : Act} {E : Env} {K : Act → Env → Prop} {K' : Act → World → Prop} {Q' : Exit → Act → World → Prop} {w : World} (hC : VE β E w) (h : ∀ a E w', VE β E w' → K a E → K' a w') (hh : fOp P ops β S D i K a E) : wpOp P ops Q' i K' a w := by
 unfold fOp at hh
 unfold wpOp
 split
 · rename_i ho; simp only [ho] at hh; exact h _ _ _ hC hh
 · rename_i o ho
   simp only [ho] at hh
   rcases hh with ⟨h1, h2⟩ | ⟨h1, h2⟩
   · have h1' : Region.wanted o (yielded ops a.tmps) = false := h1
     rw [if_neg (by rw [h1']; exact Bool.false_ne_true)]
     exact h _ _ _ hC h2
   · rw [if_pos h1.wanted]
     left
     exact wp_of_res (h1.ok E (agree.refl _ _) w hC) fun v w' ⟨x, s, hc⟩ => h _ _ _ hc (h2 v x s)
theorem wpAny_of_F {Q : Act → Env → Prop} {Q' : Exit → Act → World → Prop} (hQ : ∀ a E w, VE β E w → Q a E → Q' .normal a w) : ∀ (fuel : Nat) (listed : Array Bool) (a : Act) (E : Env) (w : World), VE β E w →
   wpAnyF P md ops β S D Q fuel listed a E → wpAny P md ops Q' fuel listed a w
 | 0, _, _, _, _, hw, h => ⟨h.1, hQ _ _ _ hw h.2⟩
 | fuel + 1, _, _, _, _, hw, h => ⟨fun h0 => hQ _ _ _ hw (h.1 h0), fun i hi => wpOp_of_fOp β S D hw (fun a' E' w' hw' => wpAny_of_F hQ fuel _ a' E' w' hw') (h.2 i hi)⟩

section
variable {o : Oper} {a : Act} {dst : Option Tmp} {u : Value}
theorem res_put {w : World} {R : Value → World → Prop} (hs : ∀ cs b, o.op ≠ .select cs b) (hd : ∀ d, dst = some d → d ∉ o.looksAt ops) : res P o (a.put dst u) w R ↔ res P o a w R := by
 unfold res
 rw [execOp_put o hs a dst u hd]
theorem eval_apart {x : Operand} (hx : x ∈ o.op.operands) (hd : ∀ d, dst = some d → d ∉ o.looksAt ops) : (a.put dst u).eval x = a.eval x :=
 Act.eval_put fun d hd' hxd => hd d hd' (by
   subst hxd
   exact List.mem_append_left _ (List.mem_filterMap.2 ⟨.tmp d, by simpa using hx, rfl⟩))
theorem spec_put {s : Stat} {K : Kind} {E : Env} {v : Value} {x : Nat × Array Value} (hs : ∀ cs b, o.op ≠ .select cs b) (hd : ∀ d, dst = some d → d ∉ o.looksAt ops) : spec P s K o (a.put dst u) E v x ↔ spec P s K o a E v x := by
 cases K with
 | val z => exact Iff.rfl
 | rel V => exact Iff.rfl
 | pure => unfold spec; rw [execOp_put o hs a dst u hd]
 | own W => exact Iff.rfl
 | laidBy mk => unfold spec; rw [execOp_put o hs a dst u hd]
 | env j W => exact Iff.rfl
 | put =>
   unfold spec
   constructor
   · rintro ⟨h0, T, px, py, off, c0, k, h1, h2, h3, h4, h5⟩
     have e1 := eval_apart (a := a) (u := u) (x := px) (by rw [h2]; simp [Op.operands]) hd
     have e2 := eval_apart (a := a) (u := u) (x := py) (by rw [h2]; simp [Op.operands]) hd
     exact ⟨h0, T, px, py, off, c0, k, h1, h2, by rw [← e1]; exact h3, h4, by rw [← e2]; exact h5⟩
   · rintro ⟨h0, T, px, py, off, c0, k, h1, h2, h3, h4, h5⟩
     have e1 := eval_apart (a := a) (u := u) (x := px) (by rw [h2]; simp [Op.operands]) hd
     have e2 := eval_apart (a := a) (u := u) (x := py) (by rw [h2]; simp [Op.operands]) hd
     exact ⟨h0, T, px, py, off, c0, k, h1, h2, by rw [e1]; exact h3, h4, by rw [e2]; exact h5⟩
theorem Valid_put {s : Stat} {K : Kind} {E : Env} (hs : ∀ cs b, o.op ≠ .select cs b) (hd : ∀ d, dst = some d → d ∉ o.looksAt ops) : Valid P β s K o (a.put dst u) E ↔ Valid P β s K o a E := by
 unfold Valid
 constructor
 · intro h E' he w hw
   exact res_mono ((res_put hs hd).1 (h E' he w hw)) fun v w' ⟨x, h1, h2⟩ => ⟨x, (spec_put hs hd).1 h1, h2⟩
 · intro h E' he w hw
   exact (res_put hs hd).2 (res_mono (h E' he w hw) fun v w' ⟨x, h1, h2⟩ => ⟨x, (spec_put hs hd).2 h1, h2⟩)
theorem spec_env {s : Stat} {K : Kind} {E E1 : Env} {v : Value} {x : Nat × Array Value} (he : agree s.keys E E1) (h : spec P s K o a E v x) : spec P s K o a E1 v x := by
 have hw : ∀ k, s.write = some k → E1 k = E k := fun k hk => he k (by unfold Stat.keys; rw [hk]; simp)
 cases K with
 | val z => exact h
 | rel V => exact h
 | pure => exact h
 | own W => exact h
 | laidBy mk => exact h
 | env j W =>
   obtain ⟨hj, B, zs, h1, h2⟩ := h
   exact ⟨hj, B, zs, by rw [he j hj]; exact h1, h2⟩
 | put =>
   obtain ⟨h0, T, px, py, off, c0, k, h1, h2, h3, h4, h5⟩ := h
   exact ⟨h0, T, px, py, off, c0, k, h1, h2, h3, by rw [hw k h1]; exact h4, h5⟩
theorem Valid_env {s : Stat} {K : Kind} {E E1 : Env} (he : agree s.keys E E1) (h : Valid P β s K o a E) : Valid P β s K o a E1 := fun E' he' w hw => h E' (he.trans he') w hw
end
theorem Stat.ind_symm {s t : Stat} (h : s.ind t = true) : t.ind s = true := by
 unfold Stat.ind at *
 rw [Bool.and_comm]; exact h
theorem upd_agree {s t : Stat} (h : s.ind t = true) (E : Env) (x : Nat × Array Value) : agree t.keys E (E.upd s.write x) := by
 intro k hk
 cases hw : s.write with
 | none => rfl
 | some k' =>
   unfold Stat.ind at h
   rw [hw] at h
   simp only [Option.toList, List.all_cons, List.all_nil, Bool.and_true, Bool.and_eq_true, Bool.not_eq_true', List.contains_eq_mem, decide_eq_false_iff_not] at h
   exact Env.put_ne _ _ (fun e => h.1 (by rw [← e]; exact hk))
theorem upd_comm {s t : Stat} (h : s.ind t = true) (E : Env) (x y : Nat × Array Value) : (E.upd s.write x).upd t.write y = (E.upd t.write y).upd s.write x := by
 cases hw : s.write with
 | none => rfl
 | some k =>
   cases hw' : t.write with
   | none => rfl
   | some k' =>
     have hne : k ≠ k' := by
       unfold Stat.ind at h
       rw [hw, hw'] at h
       simp only [Option.toList, List.all_cons, List.all_nil, Bool.and_true, Bool.and_eq_true, Bool.not_eq_true', List.contains_eq_mem, decide_eq_false_iff_not] at h
       intro e
       apply h.1
       unfold Stat.keys
       rw [hw', e]; simp
     exact Env.put_comm _ hne _ _

theorem fOp_put_good {i j : Nat} {oi oj : Oper} (hj : ops[j]? = some oj) (hap : oi.apart ops oj = true) (hsi : ∀ cs b, oi.op ≠ .select cs b) (hsj : ∀ cs b, oj.op ≠ .select cs b)
   (hind : (S i).ind (S j) = true) {K : Act → Env → Prop} {a : Act} {E : Env} (hy : Good P ops β (S i) (D i) oi a E)
   (h : ∀ v x, spec P (S i) (D i) oi a E v x → fOp P ops β S D j K (a.put oi.dst v) (E.upd (S i).write x)) :
   fOp P ops β S D j (fun a' E' => Good P ops β (S i) (D i) oi a' E' ∧ ∀ v x, spec P (S i) (D i) oi a' E' v x → K (a'.put oi.dst v) (E'.upd (S i).write x)) a E := by
 obtain ⟨h1, h2, h3⟩ := Oper.apart_spec hap
 obtain ⟨v0, x0, s0⟩ := hy.some
 have hj0 := h v0 x0 s0
 have hji := Stat.ind_symm hind
 have keep : ∀ u E', agree (S i).keys E E' → Good P ops β (S i) (D i) oi (a.put oj.dst u) E' := fun u E' he =>
   ⟨by rw [wanted_put oi a oj.dst u h3]; exact hy.wanted, by obtain ⟨v, x, hs⟩ := hy.some; exact ⟨v, x, spec_env he ((spec_put hsi h3).2 hs)⟩, Valid_env β he ((Valid_put β hsi h3).2 hy.ok)⟩
 unfold fOp at *
 simp only [hj] at *
 by_cases hof : Off ops oj a
 · left
   refine ⟨hof, keep _ _ (agree.refl _ _), fun v x s => ?_⟩
   have s' := (spec_put hsi h3).1 s
   rcases h v x s' with ⟨_, hk⟩ | ⟨hg, _⟩
   · rw [← Act.put_comm a v undef h2]; exact hk
   · have hg := hg.wanted
     rw [wanted_put oj a oi.dst v h1] at hg
     unfold Off at hof; rw [hof] at hg; cases hg
 · right
   rcases hj0 with ⟨ho, _⟩ | ⟨hg, _⟩
   · unfold Off at ho hof; rw [wanted_put oj a oi.dst v0 h1] at ho; exact absurd ho hof
   · have hw := hg.wanted
     rw [wanted_put oj a oi.dst v0 h1] at hw
     have hback := (upd_agree hind E x0).symm
     refine ⟨⟨hw, ?_, Valid_env β hback ((Valid_put β hsj h1).1 hg.ok)⟩, fun u y t => ⟨keep u _ (upd_agree hji E y), fun v x s => ?_⟩⟩
     · obtain ⟨u, y, t⟩ := hg.some
       exact ⟨u, y, spec_env hback ((spec_put hsj h1).1 t)⟩
     have s1 : spec P (S i) (D i) oi a E v x := spec_env (upd_agree hji E y).symm ((spec_put hsi h3).1 s)
     have t1 : spec P (S j) (D j) oj (a.put oi.dst v) (E.upd (S i).write x) u y := (spec_put hsj h1).2 (spec_env (upd_agree hind E x) t)
     rw [upd_comm hji]
     rcases h v x s1 with ⟨ho, _⟩ | ⟨_, hk⟩
     · unfold Off at ho; rw [wanted_put oj a oi.dst v h1, hw] at ho; cases ho
     · rw [← Act.put_comm a v u h2]; exact hk u y t1
theorem fOp_put_off {j : Nat} {oi oj : Oper} (hj : ops[j]? = some oj) (hap : oi.apart ops oj = true) (hsj : ∀ cs b, oj.op ≠ .select cs b)
   {K : Act → Env → Prop} {a : Act} {E : Env} (hy : Off ops oi a) (h : fOp P ops β S D j K (a.put oi.dst undef) E) :
   fOp P ops β S D j (fun a' E' => Off ops oi a' ∧ K (a'.put oi.dst undef) E') a E := by
 obtain ⟨h1, h2, h3⟩ := Oper.apart_spec hap
 have keep : ∀ u, Off ops oi (a.put oj.dst u) := fun u => by unfold Off; rw [wanted_put oi a oj.dst u h3]; exact hy
 unfold fOp at *
 simp only [hj] at *
 rcases h with ⟨ho, hk⟩ | ⟨hg, hk⟩
 · left
   unfold Off at ho
   rw [wanted_put oj a oi.dst undef h1] at ho
   exact ⟨ho, keep _, by rw [← Act.put_comm a undef undef h2]; exact hk⟩
 · right
   have hw := hg.wanted
   rw [wanted_put oj a oi.dst undef h1] at hw
   refine ⟨⟨hw, ?_, (Valid_put β hsj h1).1 hg.ok⟩, fun u y t => ⟨keep u, by rw [← Act.put_comm a undef u h2]; exact hk u y ((spec_put hsj h1).2 t)⟩⟩
   obtain ⟨u, y, t⟩ := hg.some
   exact ⟨u, y, (spec_put hsj h1).1 t⟩

theorem not_ready_of {i j : Nat} {oj : Oper} {listed : Array Bool} (hj : j ∈ Region.ready md ops listed) (hoj : ops[j]? = some oj) (hun : listed.getD i true = false) : ∀ e ∈ oj.after, Region.binds md e = true → e.on ≠ i := by
 obtain ⟨_, o, ho, hall⟩ := mem_ready.1 hj
 have : o = oj := Option.some.inj (ho.symm.trans hoj)
 subst this
 intro e he hb heq
 have h1 := hall e he hb
 rw [heq] at h1
 rcases Nat.lt_or_ge i listed.size with h' | h'
 · simp [h'] at hun h1; rw [hun] at h1; cases h1
 · simp [Array.getElem?_eq_none h'] at h1

theorem first_off {Q : Act → Env → Prop} {i : Nat} {oi : Oper} (hi : ops[i]? = some oi) (hsel : ∀ (j : Nat) (o : Oper) cs b, ops[j]? = some o → o.op ≠ .select cs b) :
   ∀ (fuel : Nat) (listed : Array Bool) (a : Act) (E : Env),
     (∀ j oj, ops[j]? = some oj → j ≠ i → listed.getD j true = false → (∀ e ∈ oj.after, Region.binds md e = true → e.on ≠ i) → oi.apart ops oj = true) →
     i ∈ Region.ready md ops listed → Off ops oi a →
     wpAnyF P md ops β S D Q fuel (listed.setIfInBounds i true) (a.put oi.dst undef) E → wpAnyF P md ops β S D Q (fuel + 1) listed a E := by
 intro fuel
 have one : ∀ {K : Act → Env → Prop} {a : Act} {E : Env}, Off ops oi a → K (a.put oi.dst undef) E → fOp P ops β S D i K a E := fun ho hk => by
   unfold fOp; simp only [hi]; exact .inl ⟨ho, hk⟩
 induction fuel with
 | zero =>
   intro listed a E _ hr hy H
   refine ⟨fun h => (by rw [h] at hr; cases hr), fun j hj => ?_⟩
   by_cases hji : j = i
   · subst hji; exact one hy H
   · have := ready_mono hj hji
     rw [H.1] at this; cases this
 | succ fuel ih =>
   intro listed a E hfree hr hy H
   refine ⟨fun h => (by rw [h] at hr; cases hr), fun j hj => ?_⟩
   by_cases hji : j = i
   · subst hji; exact one hy H
   · have h1 := H.2 j (ready_mono hj hji)
     obtain ⟨hjun, oj, hoj, _⟩ := mem_ready.1 hj
     have hnot := not_ready_of hj hoj (mem_ready.1 hr).1
     have h2 := fOp_put_off β S D hoj (hfree j oj hoj hji hjun hnot) (fun cs b => hsel j oj cs b hoj) hy h1
     have hfree' : ∀ k ok, ops[k]? = some ok → k ≠ i → (listed.setIfInBounds j true).getD k true = false →
         (∀ e ∈ ok.after, Region.binds md e = true → e.on ≠ i) → oi.apart ops ok = true := fun k ok hk hki hun hno => by
       refine hfree k ok hk hki ?_ hno
       by_cases hjk : j = k
       · subst hjk; exact hjun
       · rw [getD_set_ne true hjk] at hun; exact hun
     refine fOp_mono β S D (fun a' E' h3 => ih (listed.setIfInBounds j true) a' E' hfree' (ready_mono hr (Ne.symm hji)) h3.1 ?_) h2
     rw [Array.setIfInBounds_comm _ _ hji]
     exact h3.2

theorem first_good {Q : Act → Env → Prop} {i : Nat} {oi : Oper} (hi : ops[i]? = some oi) (T : Nat → Bool) (hT : ∀ j oj, ops[j]? = some oj → T j = true → ∃ e ∈ oj.after, Region.binds md e = true ∧ (e.on = i ∨ T e.on = true)) (hsel : ∀ (j : Nat) (o : Oper) cs b, ops[j]? = some o → o.op ≠ .select cs b) :
   ∀ (fuel : Nat) (listed : Array Bool) (a : Act) (E : Env), (∀ j, T j = true → listed.getD j true = false) →
     (∀ j oj, ops[j]? = some oj → j ≠ i → listed.getD j true = false → T j = false → oi.apart ops oj = true ∧ (S i).ind (S j) = true) →
     i ∈ Region.ready md ops listed → Good P ops β (S i) (D i) oi a E →
     (∀ v x, spec P (S i) (D i) oi a E v x → wpAnyF P md ops β S D Q fuel (listed.setIfInBounds i true) (a.put oi.dst v) (E.upd (S i).write x)) → wpAnyF P md ops β S D Q (fuel + 1) listed a E := by
 intro fuel
 have one : ∀ {K : Act → Env → Prop} {a : Act} {E : Env}, Good P ops β (S i) (D i) oi a E → (∀ v x, spec P (S i) (D i) oi a E v x → K (a.put oi.dst v) (E.upd (S i).write x)) → fOp P ops β S D i K a E := fun hg hk => by
   unfold fOp; simp only [hi]; exact .inr ⟨hg, hk⟩
 induction fuel with
 | zero =>
   intro listed a E hTl hfree hr hy H
   refine ⟨fun h => (by rw [h] at hr; cases hr), fun j hj => ?_⟩
   by_cases hji : j = i
   · subst hji; exact one hy H
   · obtain ⟨v0, x0, s0⟩ := hy.some
     have := ready_mono hj hji
     rw [(H v0 x0 s0).1] at this; cases this
 | succ fuel ih =>
   intro listed a E hTl hfree hr hy H
   refine ⟨fun h => (by rw [h] at hr; cases hr), fun j hj => ?_⟩
   by_cases hji : j = i
   · subst hji; exact one hy H
   · obtain ⟨hjun, oj, hoj, _⟩ := mem_ready.1 hj
     have hnT : T j = false := by
       cases hTj : T j with
       | false => rfl
       | true =>
         obtain ⟨e, he, hb, ho⟩ := hT j oj hoj hTj
         have hun : listed.getD e.on true = false := by
           rcases ho with ho | ho
           · rw [ho]; exact (mem_ready.1 hr).1
           · exact hTl _ ho
         exact absurd rfl (not_ready_of hj hoj hun e he hb)
     obtain ⟨hap, hind⟩ := hfree j oj hoj hji hjun hnT
     have h2 := fOp_put_good β S D hoj hap (fun cs b => hsel i oi cs b hi) (fun cs b => hsel j oj cs b hoj) hind hy (fun v x s => (H v x s).2 j (ready_mono hj hji))
     have hfree' : ∀ k ok, ops[k]? = some ok → k ≠ i → (listed.setIfInBounds j true).getD k true = false →
         T k = false → oi.apart ops ok = true ∧ (S i).ind (S k) = true := fun k ok hk hki hun hno => by
       refine hfree k ok hk hki ?_ hno
       by_cases hjk : j = k
       · subst hjk; exact hjun
       · rw [getD_set_ne true hjk] at hun; exact hun
     have hTl' : ∀ k, T k = true → (listed.setIfInBounds j true).getD k true = false := fun k hk => by
       have hjk : j ≠ k := fun e => by rw [e, hk] at hnT; cases hnT
       rw [getD_set_ne true hjk]; exact hTl k hk
     refine fOp_mono β S D (fun a' E' h3 => ih (listed.setIfInBounds j true) a' E' hTl' hfree' (ready_mono hr (Ne.symm hji)) h3.1 fun v x s => ?_) h2
     rw [Array.setIfInBounds_comm _ _ hji]
     exact h3.2 v x s

/-! ### The text's order. -/
def behind (md : Region.Mode) (ops : Array Oper) (i : Nat) : Array Bool := ops.foldl (fun T o => T.push (o.after.any fun e => Region.binds md e && (e.on == i || T.getD e.on false))) #[]
def exT (md : Region.Mode) (ops : Array Oper) (S : Nat → Stat) (listed : Array Bool) (i : Nat) (T : Array Bool) : Bool :=
 (List.range ops.size).all (fun j => j == i || listed.getD j true || (S i).ind (S j) || T.getD j false) &&
 (decide (T.size ≤ ops.size) && (List.range ops.size).all fun j => !T.getD j false || (!listed.getD j true && (match ops[j]? with | some oj => oj.after.any (fun e => Region.binds md e && (e.on == i || T.getD e.on false)) | none => false)))
def exB (md : Region.Mode) (ops : Array Oper) (S : Nat → Stat) (listed : Array Bool) (i : Nat) : Bool := exT md ops S listed i (behind md ops i)
def lexF (md : Region.Mode) (ops : Array Oper) (S : Nat → Stat) : Nat → Nat → Array Bool → Bool
 | 0, _, listed => (Region.ready md ops listed).isEmpty
 | n + 1, k, listed => (Region.ready md ops listed).contains k && Region.free md ops listed k && exB md ops S listed k && lexF md ops S n (k + 1) (listed.setIfInBounds k true)
def lexFB (md : Region.Mode) (ops : Array Oper) (S : Nat → Stat) : Bool := Region.noSelect ops && lexF md ops S ops.size 0 (Array.replicate ops.size false)
def wpE (P : Program) (ops : Array Oper) (β : Base) (S : Nat → Stat) (D : Nat → Kind) (Q : Act → Env → Prop) : Nat → List Oper → Act → Env → Prop
 | _, [], a, E => Q a E
 | k, o :: rest, a, E => (Off ops o a ∧ wpE P ops β S D Q (k + 1) rest (a.put o.dst undef) E) ∨
     (Good P ops β (S k) (D k) o a E ∧ ∀ v x, spec P (S k) (D k) o a E v x → wpE P ops β S D Q (k + 1) rest (a.put o.dst v) (E.upd (S k).write x))
theorem exB_spec {listed : Array Bool} {i : Nat} (h : exB md ops S listed i = true) {j : Nat} {oj : Oper} (hj : ops[j]? = some oj) (hne : j ≠ i) (hun : listed.getD j true = false)
   (hno : (behind md ops i).getD j false = false) : (S i).ind (S j) = true := by
 unfold exB exT at h
 simp only [Bool.and_eq_true, List.all_eq_true, List.mem_range] at h
 have hlt : j < ops.size := (Array.getElem?_eq_some_iff.1 hj).1
 have h' := h.1 j hlt
 have hni : (j == i) = false := by simpa using hne
 rw [hni, hun, hno] at h'
 simpa using h'
theorem behind_lt {T : Array Bool} {n j : Nat} (h : T.size ≤ n) (hj : T.getD j false = true) : j < n := by
 rcases Nat.lt_or_ge j T.size with g | g
 · omega
 · rw [Array.getD_eq_getD_getElem?, Array.getElem?_eq_none g] at hj; cases hj
theorem exB_T {listed : Array Bool} {i : Nat} (h : exB md ops S listed i = true) :
   (∀ j, (behind md ops i).getD j false = true → listed.getD j true = false) ∧ ∀ j oj, ops[j]? = some oj → (behind md ops i).getD j false = true → ∃ e ∈ oj.after, Region.binds md e = true ∧ (e.on = i ∨ (behind md ops i).getD e.on false = true) := by
 unfold exB exT at h
 simp only [Bool.and_eq_true, List.all_eq_true, List.mem_range, decide_eq_true_eq] at h
 obtain ⟨_, h1, h2⟩ := h
 refine ⟨fun j hj => ?_, fun j oj ho hj => ?_⟩
 · have := h2 j (behind_lt h1 hj)
   rw [hj] at this
   simp only [Bool.not_true, Bool.false_or, Bool.and_eq_true, Bool.not_eq_true'] at this
   exact this.1
 · have := h2 j (behind_lt h1 hj)
   rw [hj, ho] at this
   simp only [Bool.not_true, Bool.false_or, Bool.and_eq_true] at this
   obtain ⟨e, he, hb⟩ := Array.any_eq_true'.1 this.2
   simp only [Bool.and_eq_true, Bool.or_eq_true, beq_iff_eq] at hb
   exact ⟨e, he, hb⟩
theorem behind_no {listed : Array Bool} {i j : Nat} {oj : Oper} (hj : ops[j]? = some oj) (hno : (behind md ops i).getD j false = false) : ∀ e ∈ oj.after, Region.binds md e = true → e.on ≠ i := by
 intro e he hb hei
 have hlt : j < ops.size := (Array.getElem?_eq_some_iff.1 hj).1
 have key : ∀ (l : List Oper) (T : Array Bool), ((∀ m o, l[m]? = some o → (∃ e ∈ o.after, Region.binds md e = true ∧ e.on = i) → (l.foldl (fun T o => T.push (o.after.any fun e => Region.binds md e && (e.on == i || T.getD e.on false))) T).getD (T.size + m) false = true) ∧
     ∀ m, m < T.size → (l.foldl (fun T o => T.push (o.after.any fun e => Region.binds md e && (e.on == i || T.getD e.on false))) T).getD m false = T.getD m false) := by
   intro l
   induction l with
   | nil => intro T; exact ⟨fun m o h => by simp at h, fun m _ => rfl⟩
   | cons x r ih =>
     intro T
     rw [List.foldl_cons]
     obtain ⟨i1, i2⟩ := ih (T.push (x.after.any fun e => Region.binds md e && (e.on == i || T.getD e.on false)))
     refine ⟨fun m o h hex => ?_, fun m hm => ?_⟩
     · cases m with
       | zero =>
         simp only [List.getElem?_cons_zero, Option.some.injEq] at h
         subst h
         rw [Nat.add_zero, i2 _ (by simp)]
         obtain ⟨e, he, hb, ho⟩ := hex
         simp only [Array.getD_eq_getD_getElem?, Array.getElem?_push_size, Option.getD_some]
         exact Array.any_eq_true'.2 ⟨e, he, by simp [hb, ho]⟩
       | succ m =>
         simp only [List.getElem?_cons_succ] at h
         have := i1 m o h hex
         rw [Array.size_push, Nat.add_assoc, Nat.add_comm 1 m] at this
         exact this
     · rw [i2 m (by rw [Array.size_push]; omega)]
       simp only [Array.getD_eq_getD_getElem?]
       rw [Array.getElem?_push_lt hm, Array.getElem?_eq_getElem hm]
 have := (key ops.toList #[]).1 j oj (by rw [Array.getElem?_toList]; exact hj) ⟨e, he, hb, hei⟩
 unfold behind at hno
 rw [← Array.foldl_toList] at hno
 simp only [Array.size_empty, Nat.zero_add] at this
 rw [this] at hno
 cases hno
theorem wpAnyF_lex {Q : Act → Env → Prop} (hs : Region.noSelect ops = true) : ∀ (n k : Nat) (l : List Oper) (listed : Array Bool) (a : Act) (E : Env), l.length = n → (∀ i, ops[k + i]? = l[i]?) →
   lexF md ops S n k listed = true → wpE P ops β S D Q k l a E → wpAnyF P md ops β S D Q n listed a E
 | 0, _, l, _, _, _, hl, _, hB, h => by
   cases l with
   | nil => exact ⟨by simpa [lexF] using hB, h⟩
   | cons o r => simp at hl
 | n + 1, k, l, listed, a, E, hl, ho, hB, h => by
   cases l with
   | nil => simp at hl
   | cons o r =>
     have h0 : ops[k]? = some o := by simpa using ho 0
     have hr' : ∀ i, ops[k + 1 + i]? = r[i]? := fun i => by have := ho (i + 1); rw [show k + (i + 1) = k + 1 + i from by omega] at this; simpa using this
     have hln : r.length = n := by simpa using hl
     simp only [lexF, Bool.and_eq_true] at hB
     obtain ⟨⟨⟨hr, hf⟩, hx⟩, hB'⟩ := hB
     have hr2 : k ∈ Region.ready md ops listed := by simpa using hr
     have hfree := Region.free_spec h0 hf
     unfold wpE at h
     rcases h with ⟨ho1, hk⟩ | ⟨hg, hk⟩
     · exact first_off β S D h0 (Region.noSelect_spec hs) n listed a E hfree hr2 ho1 (wpAnyF_lex hs n (k + 1) r (listed.setIfInBounds k true) _ E hln hr' hB' hk)
     · exact first_good β S D h0 (fun j => (behind md ops k).getD j false) (exB_T S hx).2 (Region.noSelect_spec hs) n listed a E (exB_T S hx).1 (fun j oj hj hne hun hno => ⟨hfree j oj hj hne hun (behind_no (listed := listed) hj hno), exB_spec S hx hj hne hun hno⟩) hr2 hg
         (fun v x s => wpAnyF_lex hs n (k + 1) r (listed.setIfInBounds k true) _ _ hln hr' hB' (hk v x s))
end
theorem wp_region {P : Program} {id : Nat} {Q : Exit → Act → World → Prop} {a : Act} {w0 w : World} {L : LV} {l : List Oper} (S : Nat → Stat) (D : Nat → Kind) (hm : P.follows .mixedOrders = true)
   (hB : lexFB .any l.toArray S = true) (hv : Vars w0 w L)
   (h : wpE P l.toArray ⟨w0, w.drewN 1, L.map (·.1)⟩ S D (fun a' E' => ∀ w', VE ⟨w0, w.drewN 1, L.map (·.1)⟩ E' w' → Q .normal a' w') 0 l a (Env.of L)) : (Code.region id l.toArray true).wp P Q a w := by
 simp only [lexFB, Bool.and_eq_true] at hB
 have hC := VE.start (hv.drewN 1)
 refine wp_region_any hm (wpAny_of_F ⟨w0, w.drewN 1, L.map (·.1)⟩ S D (Q := fun a' E' => ∀ w', VE ⟨w0, w.drewN 1, L.map (·.1)⟩ E' w' → Q .normal a' w') (fun _ _ w' hw' h => h w' hw') _ _ _ (Env.of L) _ hC ?_)
 have hsz : l.toArray.size = l.length := by simp
 have hlx := hB.2
 rw [hsz] at hlx
 have := wpAnyF_lex (md := .any) ⟨w0, w.drewN 1, L.map (·.1)⟩ S D hB.1 l.length 0 l (Array.replicate l.length false) a (Env.of L) rfl (fun i => by simp) hlx h
 simpa using this
end Any
end Go
end

section
/-
 The rules of the walk over a region that draws its order (XAny): an operation passed over; a value; a call's values; a block laid; a variable written. No program in sight.
-/
namespace Go
namespace Any
open Go.RowKit
section
variable {P : Program} {ops : Array Oper} {β : Base} {S : Nat → Stat} {D : Nat → Kind} {Q : Act → Env → Prop} {k : Nat} {o : Oper} {rest : List Oper} {a : Act} {E : Env}
theorem E_nil (h : Q a E) : wpE P ops β S D Q k [] a E := h
theorem E_off (hw : Region.wanted o (yielded ops a.tmps) = false) (hk : wpE P ops β S D Q (k + 1) rest (a.put o.dst undef) E) : wpE P ops β S D Q k (o :: rest) a E := .inl ⟨hw, hk⟩
theorem Act.put_inj {a : Act} {d : Tmp} {u v : Value} (hd : d < a.tmps.size) (h : a.put (some d) u = a.put (some d) v) : u = v := by
 have e : (a.put (some d) u).tmps[d]? = (a.put (some d) v).tmps[d]? := by rw [h]
 simpa [Act.put, hd] using e
theorem res_of_quiet {C : World → Prop} {w : World} {v : Value} {R : Value → World → Prop} (hw : C w) (h : o.quietAt P a C w v) (hR : ∀ w', C w' → R v w') : res P o a w R := by
 unfold Oper.quietAt at h
 unfold res
 generalize (execOp a.eval o).run P w = r at *
 cases r with
 | ok n w' =>
   cases n <;> simp only [Oper.quietUpon] at h <;> simp only [upon]
   case value u => obtain ⟨e1, e2⟩ := h; rw [e1, e2]; exact hR _ hw
   case skip => obtain ⟨e1, e2⟩ := h; subst e2; rw [e1]; exact hR _ hw
   case enter f args => obtain ⟨e1, hc⟩ := h; rw [e1]; exact hc.mono fun e w'' ⟨he, hw''⟩ => ⟨v, he, hR _ hw''⟩
 | halt x w' => simp only [Oper.quietUpon] at h
theorem E_val {d : Tmp} {v : Value} (hd : o.dst = some d) (hsz : decide (d < a.tmps.size) = true) (hw : Region.wanted o (yielded ops a.tmps) = true) (hS : (S k).write = none)
   (h : ∀ E', agree (S k).keys E E' → ∀ K : Act → Prop, (∀ a', a' = a.put o.dst v → K a') → o.quiet P a (VE β E') K) (hD : D k = .val v) (hk : wpE P ops β S D Q (k + 1) rest (a.put o.dst v) E) : wpE P ops β S D Q k (o :: rest) a E := by
 refine .inr ⟨⟨hw, ⟨v, (0, #[]), by rw [hD]; rfl⟩, fun E' he w hv => ?_⟩, fun u x hs => ?_⟩
 · obtain ⟨u, h1, h2⟩ := h E' he (fun a' => a' = a.put o.dst v) (fun _ e => e)
   rw [hd] at h2
   have e := Act.put_inj (of_decide_eq_true hsz) h2
   refine res_of_quiet hv (h1 w hv) fun w' hw' => ⟨(0, #[]), ?_, ?_⟩
   · rw [hD]; exact e
   · rw [hS]; exact hw'
 · rw [hD] at hs
   have hs : u = v := hs
   rw [hs, hS]; exact hk
theorem E_pure {v : Value} (hw : Region.wanted o (yielded ops a.tmps) = true) (hD : D k = .pure) (hS : (S k).write = none) (hr : ∀ w, (execOp a.eval o).run P w = .ok (.value v) w)
   (hk : wpE P ops β S D Q (k + 1) rest (a.put o.dst v) E) : wpE P ops β S D Q k (o :: rest) a E := by
 refine .inr ⟨⟨hw, ⟨v, (0, #[]), by rw [hD]; exact ⟨β.W, hr _⟩⟩, fun E' he w hv => ?_⟩, fun u x hs => ?_⟩
 · unfold res
   rw [hr w]
   refine ⟨(0, #[]), ?_, ?_⟩
   · rw [hD]; exact ⟨w, hr w⟩
   · rw [hS]; exact hv
 · rw [hD] at hs
   obtain ⟨w, hw'⟩ := hs
   rw [hr w] at hw'
   cases hw'
   rw [hS]; exact hk
theorem E_pureq {v : Value} (hw : Region.wanted o (yielded ops a.tmps) = true) (hD : D k = .pure) (hS : (S k).write = none) (h : ∀ K : Act → Prop, (∀ a', a' = a.put o.dst v → K a') → o.quiet P a (fun _ => True) K) (hr : ∀ w, (execOp a.eval o).run P w = .ok (.value v) w)
   (hk : wpE P ops β S D Q (k + 1) rest (a.put o.dst v) E) : wpE P ops β S D Q k (o :: rest) a E := E_pure hw hD hS hr hk
theorem E_own {W : Value → Nat × Array Value → Prop} {i : Nat} (hw : Region.wanted o (yielded ops a.tmps) = true) (hD : D k = .own W) (hS : (S k).write = some i) (hs : ∃ v x, W v x)
   (h : ∀ E', agree (S k).keys E E' → ∀ w, VE β E' w → res P o a w fun v w' => ∃ x, W v x ∧ VE β (E'.put i x) w')
   (hk : ∀ v x, W v x → wpE P ops β S D Q (k + 1) rest (a.put o.dst v) (E.put i x)) : wpE P ops β S D Q k (o :: rest) a E := by
 obtain ⟨v0, x0, h0⟩ := hs
 refine .inr ⟨⟨hw, ⟨v0, x0, by rw [hD]; exact h0⟩, fun E' he w hv => ?_⟩, fun u x hs => ?_⟩
 · refine res_mono (h E' he w hv) fun v w' ⟨x, h1, h2⟩ => ⟨x, ?_, ?_⟩
   · rw [hD]; exact h1
   · rw [hS]; exact h2
 · rw [hD] at hs
   rw [hS]; exact hk u x hs
abbrev laid (mk : Nat → Value) (z : Array Value) : Value → Nat × Array Value → Prop := fun v x => v = mk x.1 ∧ x.2 = z
theorem E_laid {mk : Nat → Value} {z : Array Value} {t : TypeId} {i : Nat} (hw : Region.wanted o (yielded ops a.tmps) = true) (hD : D k = .own (laid mk z)) (hS : (S k).write = some i)
   (hr : ∀ w, (execOp a.eval o).run P w = .ok (.value (mk w.heap.size)) (w.alloc (.cells z t)))
   (hk : ∀ B, wpE P ops β S D Q (k + 1) rest (a.put o.dst (mk B)) (E.put i (B, z))) : wpE P ops β S D Q k (o :: rest) a E := by
 refine E_own hw hD hS ⟨mk 0, (0, z), rfl, rfl⟩ (fun E' _ w hv => ?_) (fun v x hx => ?_)
 · unfold res
   rw [hr w]
   have hm := made_alloc w z t
   exact ⟨(w.heap.size, z), ⟨rfl, rfl⟩, hv.lay (Nat.le_refl _) hm.new hm.row hm.soft⟩
 · obtain ⟨rfl, h2⟩ := hx
   have : x = (x.1, z) := by rw [← h2]
   rw [this]; exact hk x.1
theorem E_lay {z : Array Value} {t : TypeId} {i : Nat} (hw : Region.wanted o (yielded ops a.tmps) = true) (hD : D k = .own (laid (fun B => .pointer (some ⟨B, 0, none⟩)) z)) (hS : (S k).write = some i)
   (hr : ∀ w, (execOp a.eval o).run P w = .ok (.value (.pointer (some ⟨w.heap.size, 0, none⟩))) (w.alloc (.cells z t)))
   (hk : ∀ B, wpE P ops β S D Q (k + 1) rest (a.put o.dst (.pointer (some ⟨B, 0, none⟩))) (E.put i (B, z))) : wpE P ops β S D Q k (o :: rest) a E :=
 E_laid hw hD hS hr hk
theorem E_bsl {n : Nat} {z : Array Value} {t : TypeId} {i : Nat} (hw : Region.wanted o (yielded ops a.tmps) = true) (hD : D k = .own (laid (fun B => .slice (some ⟨B, 0, none⟩) n n) z)) (hS : (S k).write = some i)
   (hr : ∀ w, (execOp a.eval o).run P w = .ok (.value (.slice (some ⟨w.heap.size, 0, none⟩) n n)) (w.alloc (.cells z t)))
   (hk : ∀ B, wpE P ops β S D Q (k + 1) rest (a.put o.dst (.slice (some ⟨B, 0, none⟩) n n)) (E.put i (B, z))) : wpE P ops β S D Q k (o :: rest) a E :=
 E_laid hw hD hS hr hk
theorem E_put {T : TypeId} {px py : Operand} {i B off : Nat} {c0 c : Array Value} (hw : Region.wanted o (yielded ops a.tmps) = true) (hD : D k = .put) (hS : (S k).write = some i) (ho : o.op = .store T px py) (hp : a.eval px = .pointer (some ⟨B, off, none⟩)) (hE : E i = some (B, c0))
   (hc : splice c0 off (a.eval py).cells = c) (hr : ∀ w, w.rowD B = c0 → w.soft B = true → ∃ w', (execOp a.eval o).run P w = .ok .skip w' ∧ Wrote w w' B c)
   (hk : wpE P ops β S D Q (k + 1) rest (a.put o.dst undef) (E.put i (B, c))) : wpE P ops β S D Q k (o :: rest) a E := by
 have hmem : i ∈ (S k).keys := by unfold Stat.keys; rw [hS]; simp
 refine .inr ⟨⟨hw, ⟨undef, (B, c), ?_⟩, fun E' he w hv => ?_⟩, fun u x hs => ?_⟩
 · rw [hD]
   exact ⟨rfl, T, px, py, off, c0, i, hS, ho, hp, hE, hc.symm⟩
 · have hE' : E' i = some (B, c0) := by rw [he i hmem]; exact hE
   obtain ⟨h1, h2, _⟩ := hv.own i B c0 hE'
   obtain ⟨w', r, hw'⟩ := hr w h1 h2
   unfold res
   rw [r]
   refine ⟨(B, c), ?_, ?_⟩
   · rw [hD]
     exact ⟨rfl, T, px, py, off, c0, i, hS, ho, hp, hE', hc.symm⟩
   · rw [hS]; exact hv.fill hE' hw'
 · rw [hD] at hs
   obtain ⟨rfl, T', px', py', off', c1, k', g1, g2, g3, g4, g5⟩ := hs
   rw [hS] at g1
   cases g1
   rw [ho] at g2
   cases g2
   rw [hp] at g3
   rw [hE] at g4
   cases g3
   obtain ⟨x1, x2⟩ := x
   cases g4
   rw [hS, show x2 = c from g5.trans hc]
   exact hk
theorem splice_whole {c0 c : Array Value} (h : c0.size = c.size) : splice c0 0 c = c := by
 apply Array.ext_getElem?
 intro i
 rw [get_splice _ _ _ (by omega), if_neg (by omega)]
 by_cases hi' : i < c.size
 · rw [if_pos (by omega)]; simp
 · rw [if_neg (by omega), Array.getElem?_eq_none (by omega), Array.getElem?_eq_none (by omega)]
theorem splice_one {c0 : Array Value} {off : Nat} {v : Value} (h : off < c0.size) : splice c0 off #[v] = c0.setIfInBounds off v := by
 apply Array.ext_getElem?
 intro i
 rw [get_splice _ _ _ (by simp; omega), Array.getElem?_setIfInBounds]
 have hs : (#[v] : Array Value).size = 1 := rfl
 rw [hs]
 by_cases h1 : i < off
 · rw [if_pos h1, if_neg (by omega)]
 · rw [if_neg h1]
   by_cases h2 : i = off
   · subst h2; rw [if_pos (by omega), if_pos rfl, if_pos h]; simp
   · rw [if_neg (by omega), if_neg (by omega)]
theorem oneCell_cells {v : Value} (h : v.oneCell' = true) : v.cells = #[v] := by cases v <;> first | rfl | cases h
theorem run_stv (w : World) (ty : TypeId) (x y : Operand) (ho : o.op = .store ty x y) (b : Nat) (cells : Array Value) (hx : a.eval x = .pointer (some ⟨b, 0, none⟩)) (hy : a.eval y = .agg cells) (n : Nat) (hi : (P.info? ty).map (·.size) = some n)
   (hc : cells.size = n) (h1 : cells.all (·.oneCell') = true) (hsoft : w.soft b = true) (hs : (w.rowD b).size = n) : ∃ w', (execOp a.eval o).run P w = .ok .skip w' ∧ Wrote w w' b cells := by
 have e := setCells_row cells.toList w b 0 hsoft (by simp; omega)
 have ht : w.there b 0 cells.size := fun j hj => by
   obtain ⟨t, ht⟩ := soft_heap hsoft
   refine ⟨?_, frozen_of_row w b _ _ t ht⟩
   rw [cell_rowD, Array.getElem?_eq_getElem (by omega)]; rfl
 have e2 : splice (w.rowD b) 0 cells = cells := by
   apply Array.ext_getElem?
   intro i
   rw [get_splice _ _ _ (by omega), if_neg (by omega)]
   by_cases hi' : i < cells.size
   · rw [if_pos (by omega)]; simp
   · rw [if_neg (by omega), Array.getElem?_eq_none (by omega), Array.getElem?_eq_none (by omega)]
 refine ⟨w.setRow b cells, ?_, wrote_setRow hsoft⟩
 unfold execOp
 simp only [ho, hx, hy, Instr.storeAt, Instr.sureAddr, Sem.run_bind, Sem.run_pure, Result.andThen_ok, run_storeVar_mid w b 0 ty cells ht (by rw [hc]; exact hi) h1, e]
 rw [Array.toArray_toList, e2]
theorem run_stc (w : World) (ty : TypeId) (x y : Operand) (ho : o.op = .store ty x y) (b off : Nat) (v : Value) (hx : a.eval x = .pointer (some ⟨b, off, none⟩)) (hy : a.eval y = v) (hi : (P.info? ty).map (·.size) = some 1)
   (h1 : v.oneCell' = true) (hsoft : w.soft b = true) (hs : off < (w.rowD b).size) : ∃ w', (execOp a.eval o).run P w = .ok .skip w' ∧ Wrote w w' b ((w.rowD b).setIfInBounds off v) := by
 obtain ⟨t, ht⟩ := soft_heap hsoft
 have hc : w.cell? ⟨b, off, none⟩ = some (w.rowD b)[off] := by rw [cell_rowD, Array.getElem?_eq_getElem hs]
 have hf : w.frozen? ⟨b, off, none⟩ = false := frozen_of_row w b off _ t ht
 have hv : v.cells = #[v] := by cases v <;> first | rfl | cases h1
 cases hq : P.info? ty with
 | none => simp [hq] at hi
 | some i =>
   have hsz : i.size = 1 := by simpa [hq] using hi
   have hrun : (storeVar ty ⟨b, off, none⟩ v).run P w = .ok () (w.setCell ⟨b, off, none⟩ v) := by
     simp [storeVar, sizeOf, typeInfo, hq, hv, hsz, storeCells, Addr.add, run_store, h1, hc, hf]
   refine ⟨w.setCell ⟨b, off, none⟩ v, ?_, ?_⟩
   · unfold execOp
     simp only [ho, hx, hy, Instr.storeAt, Instr.sureAddr, Sem.run_bind, Sem.run_pure, Result.andThen_ok, hrun]
   · rw [setCell_eq_setRow w b off _ t (0, 0) v ht]
     exact wrote_setRow hsoft
end
section
variable {P : Program} {ops : Array Oper} {β : Base} {S : Nat → Stat} {D : Nat → Kind} {Q : Act → Env → Prop} {k : Nat} {rest : List Oper} {a : Act} {E : Env}
variable {dst : Option Tmp} {ty T : TypeId} {pos : String} {after : Array Edge} {g : Option (Nat × Bool)} {x y : Operand}
theorem at_ealloc (h : wpE P ops β S D Q k (⟨dst, .alloc T, ty, pos, after, g⟩ :: rest) a E) : wpE P ops β S D Q k (⟨dst, .alloc T, ty, pos, after, g⟩ :: rest) a E := h
theorem at_ebsl {n : Nat} {ps : Array (Nat × Operand)} (h : wpE P ops β S D Q k (⟨dst, .buildSlice T n ps, ty, pos, after, g⟩ :: rest) a E) : wpE P ops β S D Q k (⟨dst, .buildSlice T n ps, ty, pos, after, g⟩ :: rest) a E := h
theorem at_estore (h : wpE P ops β S D Q k (⟨dst, .store T x y, ty, pos, after, g⟩ :: rest) a E) : wpE P ops β S D Q k (⟨dst, .store T x y, ty, pos, after, g⟩ :: rest) a E := h
theorem E_putv {i B : Nat} {c0 c : Array Value} (hw : Region.wanted (⟨dst, .store T x y, ty, pos, after, g⟩ : Oper) (yielded ops a.tmps) = true) (hD : D k = .put) (hS : (S k).write = some i) (hx : a.eval x = .pointer (some ⟨B, 0, none⟩)) (hE : E i = some (B, c0))
   (hy : a.eval y = .agg c) (n : Nat) (hi : (P.info? T).map (·.size) = some n) (hc : c.size = n) (h0 : c0.size = n) (h1 : c.all (·.oneCell') = true)
   (hk : wpE P ops β S D Q (k + 1) rest (a.put dst undef) (E.put i (B, c))) : wpE P ops β S D Q k (⟨dst, .store T x y, ty, pos, after, g⟩ :: rest) a E :=
 E_put hw hD hS rfl hx hE (by rw [hy]; exact splice_whole (h0.trans hc.symm)) (fun w hr hs => run_stv (o := ⟨dst, .store T x y, ty, pos, after, g⟩) w T x y rfl B c hx hy n hi hc h1 hs (by rw [hr]; exact h0)) hk
theorem E_putc {i B off : Nat} {c0 : Array Value} {v : Value} (hw : Region.wanted (⟨dst, .store T x y, ty, pos, after, g⟩ : Oper) (yielded ops a.tmps) = true) (hD : D k = .put) (hS : (S k).write = some i) (hx : a.eval x = .pointer (some ⟨B, off, none⟩)) (hE : E i = some (B, c0))
   (hy : a.eval y = v) (hi : (P.info? T).map (·.size) = some 1) (h1 : v.oneCell' = true) (h0 : off < c0.size)
   (hk : wpE P ops β S D Q (k + 1) rest (a.put dst undef) (E.put i (B, c0.setIfInBounds off v))) : wpE P ops β S D Q k (⟨dst, .store T x y, ty, pos, after, g⟩ :: rest) a E :=
 E_put hw hD hS rfl hx hE (by rw [hy, oneCell_cells h1]; exact splice_one h0) (fun w hr hs => by have := run_stc (P := P) (a := a) (o := ⟨dst, .store T x y, ty, pos, after, g⟩) w T x y rfl B off v hx hy hi h1 hs (by rw [hr]; exact h0); rw [hr] at this; exact this) hk
end
/-! Loads. -/
section
variable {P : Program} {β : Base} {E E' : Env} {a : Act} {K : Act → Prop} {dst : Option Tmp} {ty T : TypeId} {pos : String} {after : Array Edge} {g : Option (Nat × Bool)} {x : Operand} {ks : List Nat}
theorem at_qload {C : World → Prop} (h : Oper.quiet P ⟨dst, .load T x, ty, pos, after, g⟩ a C K) : Oper.quiet P ⟨dst, .load T x, ty, pos, after, g⟩ a C K := h
theorem q_ldv (i : Nat) (hA : agree ks E E') (hm : i ∈ ks) {B : Nat} {c : Array Value} (hx : a.eval x = .pointer (some ⟨B, 0, none⟩)) (hE : E i = some (B, c)) (n : Nat) (d : TypeDesc)
   (hu : P.underlying T = some d) (hd : d.isRow = true) (hi : (P.info? T).map (·.size) = some n) (hn : 0 < n) (hs : c.size = n) (hk : K (a.put dst (.agg c))) : Oper.quiet P ⟨dst, .load T x, ty, pos, after, g⟩ a (VE β E') K :=
 quiet_load_any T x rfl B 0 hx n d hu hd hi hn c (fun w hw => by
   have := (hw.own i B c (by rw [hA i hm]; exact hE)).1
   rw [this, hs]; exact ⟨by omega, by subst hs; simp⟩) hk
theorem q_ldp (i : Nat) (hA : agree ks E E') (hm : i ∈ ks) {B o : Nat} {c : Array Value} (hx : a.eval x = .pointer (some ⟨B, o, none⟩)) (hE : E i = some (B, c)) (n : Nat) (d : TypeDesc)
   (hu : P.underlying T = some d) (hd : d.isRow = true) (hi : (P.info? T).map (·.size) = some n) (hn : 0 < n) (hs : o + n ≤ c.size) (v : Array Value) (hv : c.extract o (o + n) = v) (hk : K (a.put dst (.agg v))) : Oper.quiet P ⟨dst, .load T x, ty, pos, after, g⟩ a (VE β E') K :=
 quiet_load_any T x rfl B o hx n d hu hd hi hn v (fun w hw => by
   have := (hw.own i B c (by rw [hA i hm]; exact hE)).1
   rw [this]; exact ⟨hs, hv⟩) hk
theorem q_ldc (i : Nat) (hA : agree ks E E') (hm : i ∈ ks) {B o : Nat} {c : Array Value} (hx : a.eval x = .pointer (some ⟨B, o, none⟩)) (hE : E i = some (B, c)) (d : TypeDesc)
   (hu : P.underlying T = some d) (hd : d.isRow = false) (v : Value) (hv : c[o]? = some v) (hk : K (a.put dst v)) : Oper.quiet P ⟨dst, .load T x, ty, pos, after, g⟩ a (VE β E') K :=
 quiet_load_cell T x rfl B o hx d hu hd v (fun w hw => by
   have := (hw.own i B c (by rw [hA i hm]; exact hE)).1
   rw [this]; exact hv) hk
end
def someVals : Nat → (List Value → Prop) → Prop
 | 0, p => p []
 | n + 1, p => ∃ v, someVals n (fun l => p (v :: l))
theorem of_someVals {R : Prop} : ∀ (n : Nat) {p : List Value → Prop}, (∀ l, p l → R) → someVals n p → R
 | 0, _, h, hs => h _ hs
 | n + 1, _, h, ⟨v, hs⟩ => of_someVals n (fun l hl => h (v :: l) hl) hs
inductive Mark where
 | val
 | put
 | pure
 | own (W : Value → Nat × Array Value → Prop)
 | rel (V : Value → Prop)
 | laidBy (mk : Nat → Value)
 | env (j : Nat) (W : Array Value → Value → Nat × Array Value → Prop)
abbrev Mark.lay (z : Array Value) : Mark := .own (laid (fun B => .pointer (some ⟨B, 0, none⟩)) z)
abbrev Mark.bsl (n : Nat) (z : Array Value) : Mark := .own (laid (fun B => .slice (some ⟨B, 0, none⟩) n n) z)
def kindOf (ms : List Mark) (vs : List Value) (i : Nat) : Kind := match ms.getD i .val with
 | .val => .val (vs.getD i undef)
 | .put => .put
 | .pure => .pure
 | .own W => .own W
 | .laidBy mk => .laidBy mk
 | .env j W => .env j W
 | .rel V => .rel V
theorem wp_region_walk {P : Program} {id : Nat} {Q : Exit → Act → World → Prop} {a : Act} {w0 w : World} {L : LV} {l : List Oper} (ss : List Stat) (ms : List Mark) (hm : P.follows .mixedOrders = true)
   (hB : lexFB .any l.toArray (fun i => ss.getD i ⟨[], none⟩) = true) (hv : Vars w0 w L)
   (h : someVals l.length fun vs => wpE P l.toArray ⟨w0, w.drewN 1, L.map (·.1)⟩ (fun i => ss.getD i ⟨[], none⟩) (kindOf ms vs) (fun a' E' => ∀ w', VE ⟨w0, w.drewN 1, L.map (·.1)⟩ E' w' → Q .normal a' w') 0 l a (Env.of L)) : (Code.region id l.toArray true).wp P Q a w :=
 of_someVals _ (fun vs h => wp_region (fun i => ss.getD i ⟨[], none⟩) (kindOf ms vs) hm hB hv h) h
theorem calls_VE {P : Program} {f : FuncId} {args : Array Value} {β : Base} {w : World} {v : Value} {E : Env} (h : Calls P f args w fun e w' => e = .returned v ∧ New w w') (hv : VE β E w) :
   Calls P f args w fun e w' => e = .returned v ∧ VE β E w' := h.mono fun _ _ ⟨a, b⟩ => ⟨a, hv.new b⟩
theorem calls_VEq {P : Program} {f : FuncId} {args : Array Value} {β : Base} {w : World} {v : Value} {E : Env} (h : Calls P f args w fun e w' => e = .returned v ∧ w = w') (hv : VE β E w) :
   Calls P f args w fun e w' => e = .returned v ∧ VE β E w' := h.mono fun _ _ ⟨a, b⟩ => ⟨a, by rw [← b]; exact hv⟩
end Any
end Go
end
