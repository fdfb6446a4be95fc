/-
 A region that draws its order, the variables and all that is read kept as Mem keeps them: one walk in the text's order serves every order, calls that make whatever memory among the operations. No program in sight.
-/
import Derived.Test.YthenepdbgeafkaaGAI
set_option linter.unusedVariables false
set_option linter.unusedSimpArgs false
namespace Go
namespace Bny
open Go.RowKit Go.Any
inductive Slot where
 | none
 | row (B : Nat) (c : Array Value)
 | rds (R : LR)
def Slot.rows : Slot → LV
 | .row B c => [(B, c)]
 | _ => []
def Slot.reads : Slot → LR
 | .rds R => R
 | _ => []
abbrev Env := Nat → Slot
def Env.put (E : Env) (i : Nat) (x : Slot) : Env := fun j => if j = i then x else E j
theorem Env.put_same (E : Env) (i : Nat) (x : Slot) : E.put i x i = x := by simp [Env.put]
theorem Env.put_ne (E : Env) {i j : Nat} (x : Slot) (h : j ≠ i) : E.put i x j = E j := by simp [Env.put, h]
theorem Env.put_comm (E : Env) {i j : Nat} (h : i ≠ j) (x y : Slot) : (E.put i x).put j y = (E.put j y).put i x := by
 funext k; unfold Env.put; by_cases h1 : k = i <;> by_cases h2 : k = j <;> simp [h1, h2] <;> omega
def Env.of (L : LV) : Env := fun k => if k < 1000 then .none else match L[k - 1000]? with | some x => .row x.1 x.2 | none => .none
structure Base where
 w0 : World
 L : LV
 R : LR
def rowsE (E : Env) (ks : List Nat) : LV := ks.flatMap fun k => (E k).rows
def readsE (E : Env) (ks : List Nat) : LR := ks.flatMap fun k => (E k).reads
def VE (β : Base) (E : Env) (w : World) : Prop := ∃ ks : List Nat, ks.Nodup ∧ (∀ j, j ∉ ks → E j = .none) ∧ Mem β.w0 w (rowsE E ks ++ β.L) (readsE E ks ++ β.R)
theorem rowsE_put {E : Env} {i : Nat} {x : Slot} {ks : List Nat} (h : i ∉ ks) : rowsE (E.put i x) ks = rowsE E ks := by
 unfold rowsE
 induction ks with
 | nil => rfl
 | cons k ks ih => rw [List.flatMap_cons, List.flatMap_cons, ih (fun hm => h (List.mem_cons_of_mem _ hm)), Env.put_ne _ _ (fun e => h (by rw [← e]; exact List.mem_cons_self ..))]
theorem readsE_put {E : Env} {i : Nat} {x : Slot} {ks : List Nat} (h : i ∉ ks) : readsE (E.put i x) ks = readsE E ks := by
 unfold readsE
 induction ks with
 | nil => rfl
 | cons k ks ih => rw [List.flatMap_cons, List.flatMap_cons, ih (fun hm => h (List.mem_cons_of_mem _ hm)), Env.put_ne _ _ (fun e => h (by rw [← e]; exact List.mem_cons_self ..))]
theorem perm_rows {E : Env} {i : Nat} : ∀ {ks : List Nat}, i ∈ ks → ks.Nodup → (rowsE E ks).Perm ((E i).rows ++ rowsE E (ks.filter (· != i)))
 | [], h, _ => (List.not_mem_nil h).elim
 | k :: ks, h, hn => by
   rw [List.nodup_cons] at hn
   by_cases hk : k = i
   · subst hk
     have e : (k :: ks).filter (· != k) = ks := by
       rw [List.filter_cons_of_neg (by simp)]
       exact List.filter_eq_self.2 fun a ha => by
         have : a ≠ k := fun e => hn.1 (by rw [← e]; exact ha)
         simpa using this
     rw [e]; exact List.Perm.refl _
   · have hm : i ∈ ks := (List.mem_cons.1 h).resolve_left (fun e => hk e.symm)
     have ih := perm_rows (E := E) hm hn.2
     rw [List.filter_cons_of_pos (by simpa using hk)]
     show (rowsE E (k :: ks)).Perm ((E i).rows ++ rowsE E (k :: ks.filter (· != i)))
     unfold rowsE at *
     rw [List.flatMap_cons, List.flatMap_cons, ← List.append_assoc]
     exact (List.Perm.append_left _ ih).trans (by rw [← List.append_assoc]; exact List.Perm.append_right _ List.perm_append_comm)
theorem mem_reads {E : Env} {i : Nat} {ks : List Nat} {x : Nat × Value × List Value} : x ∈ readsE E ks ↔ ∃ k ∈ ks, x ∈ (E k).reads := by
 unfold readsE; exact List.mem_flatMap
theorem VE.split {β : Base} {E : Env} {w : World} (h : VE β E w) (i : Nat) : ∃ ks : List Nat, ks.Nodup ∧ i ∉ ks ∧ (∀ j, j ≠ i → j ∉ ks → E j = .none) ∧ Mem β.w0 w ((E i).rows ++ (rowsE E ks ++ β.L)) ((E i).reads ++ (readsE E ks ++ β.R)) := by
 obtain ⟨ks, hn, hno, hm⟩ := h
 by_cases hi : i ∈ ks
 · refine ⟨ks.filter (· != i), hn.filter _, by simp, fun j hj hjk => hno j fun hk => hjk (List.mem_filter.2 ⟨hk, by simpa using hj⟩), ?_⟩
   refine (hm.perm (((perm_rows hi hn).append_right β.L).trans (by rw [List.append_assoc]))).keepR fun x hx => ?_
   rcases List.mem_append.1 hx with hx | hx
   · exact List.mem_append_left _ ((mem_reads (i := i)).2 ⟨i, hi, hx⟩)
   · rcases List.mem_append.1 hx with hx | hx
     · obtain ⟨k, hk, hx⟩ := (mem_reads (i := i)).1 hx
       exact List.mem_append_left _ ((mem_reads (i := i)).2 ⟨k, (List.mem_filter.1 hk).1, hx⟩)
     · exact List.mem_append_right _ hx
 · have e := hno i hi
   rw [e]
   exact ⟨ks, hn, hi, fun j _ hjk => hno j hjk, hm⟩
theorem VE.join {β : Base} {E : Env} {w : World} {i : Nat} {x : Slot} {ks : List Nat} (hn : ks.Nodup) (hi : i ∉ ks) (hno : ∀ j, j ≠ i → j ∉ ks → E j = .none) (hm : Mem β.w0 w (x.rows ++ (rowsE E ks ++ β.L)) (x.reads ++ (readsE E ks ++ β.R))) : VE β (E.put i x) w := by
 refine ⟨i :: ks, List.nodup_cons.2 ⟨hi, hn⟩, fun j hj => ?_, ?_⟩
 · rw [List.mem_cons, not_or] at hj
   rw [Env.put_ne _ _ hj.1]; exact hno j hj.1 hj.2
 · have e1 : rowsE (E.put i x) (i :: ks) = x.rows ++ rowsE E ks := by
     show ((E.put i x) i).rows ++ rowsE (E.put i x) ks = _
     rw [Env.put_same, rowsE_put hi]
   have e2 : readsE (E.put i x) (i :: ks) = x.reads ++ readsE E ks := by
     show ((E.put i x) i).reads ++ readsE (E.put i x) ks = _
     rw [Env.put_same, readsE_put hi]
   rw [e1, e2, List.append_assoc, List.append_assoc]
   exact hm
theorem rows_of (L : LV) : rowsE (Env.of L) ((List.range L.length).map (1000 + ·)) = L := by
 have key : ∀ (n : Nat) (l : LV), (∀ j, j < l.length → L[n + j]? = l[j]?) → rowsE (Env.of L) ((List.range l.length).map fun j => 1000 + (n + j)) = l := by
   intro n l
   induction l generalizing n with
   | nil => intro _; rfl
   | cons x r ih =>
     intro h
     rw [List.length_cons, List.range_succ_eq_map, List.map_cons, List.map_map]
     show ((Env.of L) (1000 + (n + 0))).rows ++ rowsE (Env.of L) _ = _
     have e0 : Env.of L (1000 + (n + 0)) = .row x.1 x.2 := by
       unfold Env.of
       rw [if_neg (by omega), show 1000 + (n + 0) - 1000 = n + 0 from by omega, h 0 (by simp)]
       rfl
     have e1 := ih (n + 1) (fun j hj => by have := h (j + 1) (by simpa using hj); rw [show n + 1 + j = n + (j + 1) from by omega, this]; simp)
     rw [e0]
     have e2 : ((fun j => 1000 + (n + j)) ∘ Nat.succ) = fun j => 1000 + (n + 1 + j) := by funext j; show 1000 + (n + (j + 1)) = _; omega
     rw [e2, e1]
     rfl
 have := key 0 L (fun j _ => by rw [Nat.zero_add])
 simpa using this
theorem reads_of (L : LV) (ks : List Nat) : readsE (Env.of L) ks = [] := by
 unfold readsE
 refine List.flatMap_eq_nil_iff.2 fun k _ => ?_
 unfold Env.of
 split
 · rfl
 · split <;> rfl
theorem VE.start {w0 w : World} {L1 L : LV} {R : LR} (h : Mem w0 w (L1 ++ L) R) : VE ⟨w0, L, R⟩ (Env.of L1) w := by
 refine ⟨(List.range L1.length).map (1000 + ·), ?_, fun j hj => ?_, ?_⟩
 · exact List.Pairwise.map _ (fun a b (hab : a ≠ b) (e : 1000 + a = 1000 + b) => hab (by omega)) List.nodup_range
 · unfold Env.of
   split
   · rfl
   · have : ¬ j - 1000 < L1.length := fun hlt => hj (List.mem_map.2 ⟨j - 1000, List.mem_range.2 hlt, by omega⟩)
     rw [List.getElem?_eq_none (by omega)]
 · rw [rows_of, reads_of]; exact h
theorem VE.new {β : Base} {E : Env} {w w' : World} (h : VE β E w) (hn : New w w') : VE β E w' := by
 obtain ⟨ks, h1, h2, hm⟩ := h
 exact ⟨ks, h1, h2, hm.new hn⟩
theorem VE.row {β : Base} {E : Env} {w : World} (h : VE β E w) {i B : Nat} {c : Array Value} (hE : E i = .row B c) : w.rowD B = c ∧ w.soft B = true := by
 obtain ⟨ks, _, _, _, hm⟩ := h.split i
 rw [hE] at hm
 have := hm.vars.rows (B, c) (List.mem_append_left _ (List.mem_singleton_self _))
 exact ⟨this.1, this.2.1⟩
theorem VE.lay {β : Base} {E : Env} {w w' : World} (h : VE β E w) {i : Nat} {x : Nat × Array Value} (hB : w.heap.size ≤ x.1) (hn : New w w') (hr : w'.rowD x.1 = x.2) (hs : w'.soft x.1 = true) : VE β (E.put i (.row x.1 x.2)) w' := by
 obtain ⟨ks, h1, h2, h3, hm⟩ := h.split i
 refine VE.join h1 h2 h3 ?_
 exact ((hm.keep (List.sublist_append_right _ _)).lay' hB hn hr hs).keepR fun y hy => List.mem_append_right _ hy
theorem VE.fill {β : Base} {E : Env} {w w' : World} (h : VE β E w) {i B : Nat} {c0 c : Array Value} (hi : E i = .row B c0) (hw : Wrote w w' B c) : VE β (E.put i (.row B c)) w' := by
 obtain ⟨ks, h1, h2, h3, hm⟩ := h.split i
 rw [hi] at hm
 exact VE.join h1 h2 h3 (hm.set 0 rfl hw)
theorem VE.all {β : Base} {E : Env} {w : World} (h : VE β E w) : ∃ L R, Mem β.w0 w L R ∧ (∀ x ∈ β.R, x ∈ R) ∧ (∀ i, ∀ x ∈ (E i).reads, x ∈ R) ∧ ∀ i R' w', Mem β.w0 w' L R' → (∀ x ∈ R, x ∈ R') → VE β (E.put i (.rds R')) w' := by
 obtain ⟨ks, h1, h2, hm⟩ := h
 refine ⟨_, _, hm, fun x hx => List.mem_append_right _ hx, fun i x hx => ?_, fun i R' w' hm' hs => ?_⟩
 · by_cases hi : i ∈ ks
   · exact List.mem_append_left _ ((mem_reads (i := i)).2 ⟨i, hi, hx⟩)
   · rw [h2 i hi] at hx; exact (List.not_mem_nil hx).elim
 · have hv : VE ⟨β.w0, β.L, R'⟩ E w' := ⟨ks, h1, h2, hm'.keepR fun x hx => by
     rcases List.mem_append.1 hx with hx | hx
     · exact hs x (List.mem_append_left _ hx)
     · exact hx⟩
   obtain ⟨ks', g1, g2, g3, gm⟩ := hv.split i
   refine VE.join g1 g2 g3 ((gm.keep (L' := rowsE E ks' ++ β.L) (List.sublist_append_right _ _)).keepR fun x hx => ?_)
   rcases List.mem_append.1 hx with hx | hx
   · exact List.mem_append_right _ (List.mem_append_right _ hx)
   · rcases List.mem_append.1 hx with hx | hx
     · exact List.mem_append_right _ (List.mem_append_left _ hx)
     · exact List.mem_append_right _ (List.mem_append_right _ (hs x (List.mem_append_right _ hx)))
theorem VE.keepRows {w : World} : ∀ (ks : List Nat) (β : Base) (E : Env), VE β E w → ks.Nodup → Mem β.w0 w (rowsE E ks ++ β.L) β.R
 | [], β, E, h, _ => by
   obtain ⟨ks, _, _, hm⟩ := h
   exact (hm.keep (L' := β.L) (List.sublist_append_right _ _)).keepR fun x hx => List.mem_append_right _ hx
 | k :: ks, β, E, h, hn => by
   rw [List.nodup_cons] at hn
   obtain ⟨ks2, h1, h2, h3, hm⟩ := h.split k
   have hv : VE ⟨β.w0, (E k).rows ++ β.L, β.R⟩ (E.put k .none) w := by
     refine VE.join (x := .none) h1 h2 h3 ((hm.perm ?_).keepR fun x hx => List.mem_append_right _ hx)
     show ((E k).rows ++ (rowsE E ks2 ++ β.L)).Perm ([] ++ (rowsE E ks2 ++ ((E k).rows ++ β.L)))
     rw [List.nil_append, ← List.append_assoc, ← List.append_assoc]
     exact List.Perm.append_right _ List.perm_append_comm
   have := VE.keepRows ks _ _ hv hn.2
   rw [rowsE_put hn.1] at this
   refine this.perm ?_
   show (rowsE E ks ++ ((E k).rows ++ β.L)).Perm ((E k).rows ++ rowsE E ks ++ β.L)
   rw [← List.append_assoc]
   exact List.Perm.append_right _ List.perm_append_comm
theorem VE.mem {β : Base} {E : Env} {w : World} (h : VE β E w) (ks rs : List Nat) (hk : ks.Nodup) : Mem β.w0 w (rowsE E ks ++ β.L) (readsE E rs ++ β.R) := by
 have h2 : VE ⟨β.w0, β.L, readsE E rs ++ β.R⟩ E w := by
   obtain ⟨ks2, g1, g2, hm⟩ := h
   refine ⟨ks2, g1, g2, hm.keepR fun x hx => ?_⟩
   rcases List.mem_append.1 hx with hx | hx
   · exact List.mem_append_left _ hx
   · rcases List.mem_append.1 hx with hx | hx
     · obtain ⟨k, _, hxk⟩ := (mem_reads (i := 0)).1 hx
       by_cases hkk : k ∈ ks2
       · exact List.mem_append_left _ ((mem_reads (i := 0)).2 ⟨k, hkk, hxk⟩)
       · rw [g2 k hkk] at hxk; exact (List.not_mem_nil hxk).elim
     · exact List.mem_append_right _ hx
 exact VE.keepRows ks ⟨β.w0, β.L, readsE E rs ++ β.R⟩ E h2 hk
theorem VE.mem1 {β : Base} {E : Env} {w : World} (h : VE β E w) (ks : List Nat) (hk : ks.Nodup) (i : Nat) {R' : LR} (hE : E i = .rds R') : Mem β.w0 w (rowsE E ks ++ β.L) R' :=
 (h.mem ks [i] hk).keepR fun x hx => List.mem_append_left _ ((mem_reads (i := i)).2 ⟨i, List.mem_singleton_self _, by rw [hE]; exact hx⟩)
theorem VE.mem0 {β : Base} {E : Env} {w : World} (h : VE β E w) (ks : List Nat) (hk : ks.Nodup) : Mem β.w0 w (rowsE E ks ++ β.L) β.R := VE.keepRows ks β E h hk
theorem some_of {P : Program} {f : FuncId} {args : Array Value} {w : World} {W : Value → LR → Prop} {C : LR → World → Prop} (h : Calls P f args w fun e w' => ∃ v R', e = .returned v ∧ W v R' ∧ C R' w') : ∃ v R', W v R' := by
 obtain ⟨e, w', fr, ⟨v, R', _, h1, _⟩, _⟩ := h []
 exact ⟨v, R', h1⟩
section
variable {P : Program} {ops : Array Oper} {md : Region.Mode}
def agree (ks : List Nat) (E E' : Env) : Prop := ∀ k ∈ ks, E' k = E k
theorem agree.refl (ks : List Nat) (E : Env) : agree ks E E := fun _ _ => rfl
theorem agree.symm {ks : List Nat} {E E' : Env} (h : agree ks E E') : agree ks E' E := fun k hk => (h k hk).symm
theorem agree.trans {ks : List Nat} {E E' E2 : Env} (h : agree ks E E') (h2 : agree ks E' E2) : agree ks E E2 := fun k hk => (h2 k hk).trans (h k hk)
inductive Kind where
 | val (v : Value)
 | rel (V : Value → Prop)
 | pure
 | own (W : Value → Nat × Array Value → Prop)
 | laidBy (mk : Nat → Value)
 | mem (W : Value → LR → Prop)
 | slot (W : Value → Slot → Prop)
 | put
def Env.upd (E : Env) (k : Option Nat) (x : Slot) : Env := match k with | none => E | some k => E.put k x
def spec (P : Program) (s : Any.Stat) (K : Kind) (o : Oper) (a : Act) (E : Env) (v : Value) (x : Slot) : Prop := match K with
 | .val u => v = u
 | .rel V => V v
 | .pure => ∃ w, (execOp a.eval o).run P w = .ok (.value v) w
 | .own W => ∃ B c, x = .row B c ∧ W v (B, c)
 | .laidBy mk => ∃ B z t, x = .row B z ∧ (∀ w, (execOp a.eval o).run P w = .ok (.value (mk w.heap.size)) (w.alloc (.cells z t))) ∧ v = mk B
 | .mem W => ∃ R, x = .rds R ∧ W v R
 | .slot W => W v x
 | .put => v = undef ∧ ∃ T px py off B c0 k, s.write = some k ∧ o.op = .store T px py ∧ a.eval px = .pointer (some ⟨B, off, none⟩) ∧ E k = .row B c0 ∧ x = .row B (splice c0 off (a.eval py).cells)
variable (β : Base) (S : Nat → Any.Stat) (D : Nat → Kind)
def Valid (P : Program) (β : Base) (s : Any.Stat) (K : Kind) (o : Oper) (a : Act) (E : Env) : Prop :=
 ∀ E', agree s.keys E E' → ∀ w, VE β E' w → res P o a w fun v w' => ∃ x, spec P s K o a E' v x ∧ VE β (E'.upd s.write x) w'
structure Good (P : Program) (ops : Array Oper) (β : Base) (s : Any.Stat) (K : Kind) (o : Oper) (a : Act) (E : Env) : Prop where
 wanted : Region.wanted o (yielded ops a.tmps) = true
 some : ∃ v x, spec P s K o a E v x
 ok : Valid P β s K o a E
def fOp (P : Program) (ops : Array Oper) (β : Base) (S : Nat → Any.Stat) (D : Nat → Kind) (i : Nat) (K : Act → Env → Prop) (a : Act) (E : Env) : Prop :=
 match ops[i]? with
 | none => K a E
 | some o => (Off ops o a ∧ K (a.put o.dst undef) E) ∨
     (Good P ops β (S i) (D i) o a E ∧ ∀ v x, spec P (S i) (D i) o a E v x → K (a.put o.dst v) (E.upd (S i).write x))
theorem fOp_mono {i : Nat} {a : Act} {E : Env} {K K' : Act → Env → Prop} (h : ∀ a E, K a E → K' a E) (hh : fOp P ops β S D i K a E) : fOp P ops β S D i K' a E := by
 unfold fOp at *
 split
 · rename_i ho; simp only [ho] at hh; exact h _ _ hh
 · rename_i o ho
   simp only [ho] at hh
   rcases hh with ⟨h1, h2⟩ | ⟨h1, h2⟩
   · exact .inl ⟨h1, h _ _ h2⟩
   · exact .inr ⟨h1, fun v x s => h _ _ (h2 v x s)⟩
def wpAnyF (P : Program) (md : Region.Mode) (ops : Array Oper) (β : Base) (S : Nat → Any.Stat) (D : Nat → Kind) (Q : Act → Env → Prop) : Nat → Array Bool → Act → Env → Prop
 | 0, listed, a, E => Region.ready md ops listed = [] ∧ Q a E
 | fuel + 1, listed, a, E =>
   (Region.ready md ops listed = [] → Q a E) ∧
   ∀ i ∈ Region.ready md ops listed, fOp P ops β S D i (wpAnyF P md ops β S D Q fuel (listed.setIfInBounds i true)) a E
theorem wpOp_of_fOp {i : Nat} {a : Act} {E : Env} {K : Act → Env → Prop} {K' : Act → World → Prop} {Q' : Exit → Act → World → Prop} {w : World} (hC : VE β E w) (h : ∀ a E w', VE β E w' → K a E → K' a w') (hh : fOp P ops β S D i K a E) : wpOp P ops Q' i K' a w := by
 unfold fOp at hh
 unfold wpOp
 split
 · rename_i ho; simp only [ho] at hh; exact h _ _ _ hC hh
 · rename_i o ho
   simp only [ho] at hh
   rcases hh with ⟨h1, h2⟩ | ⟨h1, h2⟩
   · have h1' : Region.wanted o (yielded ops a.tmps) = false := h1
     rw [if_neg (by rw [h1']; exact Bool.false_ne_true)]
     exact h _ _ _ hC h2
   · rw [if_pos h1.wanted]
     left
     exact wp_of_res (h1.ok E (agree.refl _ _) w hC) fun v w' ⟨x, s, hc⟩ => h _ _ _ hc (h2 v x s)
theorem wpAny_of_F {Q : Act → Env → Prop} {Q' : Exit → Act → World → Prop} (hQ : ∀ a E w, VE β E w → Q a E → Q' .normal a w) : ∀ (fuel : Nat) (listed : Array Bool) (a : Act) (E : Env) (w : World), VE β E w →
   wpAnyF P md ops β S D Q fuel listed a E → wpAny P md ops Q' fuel listed a w
 | 0, _, _, _, _, hw, h => ⟨h.1, hQ _ _ _ hw h.2⟩
 | fuel + 1, _, _, _, _, hw, h => ⟨fun h0 => hQ _ _ _ hw (h.1 h0), fun i hi => wpOp_of_fOp β S D hw (fun a' E' w' hw' => wpAny_of_F hQ fuel _ a' E' w' hw') (h.2 i hi)⟩

section
variable {o : Oper} {a : Act} {dst : Option Tmp} {u : Value}
theorem spec_put {s : Any.Stat} {K : Kind} {E : Env} {v : Value} {x : Slot} (hs : ∀ cs b, o.op ≠ .select cs b) (hd : ∀ d, dst = some d → d ∉ o.looksAt ops) : spec P s K o (a.put dst u) E v x ↔ spec P s K o a E v x := by
 cases K with
 | val z => exact Iff.rfl
 | rel V => exact Iff.rfl
 | pure => unfold spec; rw [execOp_put o hs a dst u hd]
 | own W => exact Iff.rfl
 | laidBy mk => unfold spec; rw [execOp_put o hs a dst u hd]
 | mem W => exact Iff.rfl
 | slot W => exact Iff.rfl
 | put =>
   unfold spec
   constructor
   · rintro ⟨h0, T, px, py, off, B, c0, k, h1, h2, h3, h4, h5⟩
     have e1 := eval_apart (a := a) (u := u) (x := px) (by rw [h2]; simp [Op.operands]) hd
     have e2 := eval_apart (a := a) (u := u) (x := py) (by rw [h2]; simp [Op.operands]) hd
     exact ⟨h0, T, px, py, off, B, c0, k, h1, h2, by rw [← e1]; exact h3, h4, by rw [← e2]; exact h5⟩
   · rintro ⟨h0, T, px, py, off, B, c0, k, h1, h2, h3, h4, h5⟩
     have e1 := eval_apart (a := a) (u := u) (x := px) (by rw [h2]; simp [Op.operands]) hd
     have e2 := eval_apart (a := a) (u := u) (x := py) (by rw [h2]; simp [Op.operands]) hd
     exact ⟨h0, T, px, py, off, B, c0, k, h1, h2, by rw [e1]; exact h3, h4, by rw [e2]; exact h5⟩
theorem Valid_put {s : Any.Stat} {K : Kind} {E : Env} (hs : ∀ cs b, o.op ≠ .select cs b) (hd : ∀ d, dst = some d → d ∉ o.looksAt ops) : Valid P β s K o (a.put dst u) E ↔ Valid P β s K o a E := by
 unfold Valid
 constructor
 · intro h E' he w hw
   exact res_mono ((res_put hs hd).1 (h E' he w hw)) fun v w' ⟨x, h1, h2⟩ => ⟨x, (spec_put hs hd).1 h1, h2⟩
 · intro h E' he w hw
   exact (res_put hs hd).2 (res_mono (h E' he w hw) fun v w' ⟨x, h1, h2⟩ => ⟨x, (spec_put hs hd).2 h1, h2⟩)
theorem spec_env {s : Any.Stat} {K : Kind} {E E1 : Env} {v : Value} {x : Slot} (he : agree s.keys E E1) (h : spec P s K o a E v x) : spec P s K o a E1 v x := by
 have hw : ∀ k, s.write = some k → E1 k = E k := fun k hk => he k (by unfold Any.Stat.keys; rw [hk]; simp)
 cases K with
 | val z => exact h
 | rel V => exact h
 | pure => exact h
 | own W => exact h
 | laidBy mk => exact h
 | mem W => exact h
 | slot W => exact h
 | put =>
   obtain ⟨h0, T, px, py, off, B, c0, k, h1, h2, h3, h4, h5⟩ := h
   exact ⟨h0, T, px, py, off, B, c0, k, h1, h2, h3, by rw [hw k h1]; exact h4, h5⟩
theorem Valid_env {s : Any.Stat} {K : Kind} {E E1 : Env} (he : agree s.keys E E1) (h : Valid P β s K o a E) : Valid P β s K o a E1 := fun E' he' w hw => h E' (he.trans he') w hw
end
theorem upd_agree {s t : Any.Stat} (h : s.ind t = true) (E : Env) (x : Slot) : agree t.keys E (E.upd s.write x) := by
 intro k hk
 cases hw : s.write with
 | none => rfl
 | some k' =>
   unfold Any.Stat.ind at h
   rw [hw] at h
   simp only [Option.toList, List.all_cons, List.all_nil, Bool.and_true, Bool.and_eq_true, Bool.not_eq_true', List.contains_eq_mem, decide_eq_false_iff_not] at h
   exact Env.put_ne _ _ (fun e => h.1 (by rw [← e]; exact hk))
theorem upd_comm {s t : Any.Stat} (h : s.ind t = true) (E : Env) (x y : Slot) : (E.upd s.write x).upd t.write y = (E.upd t.write y).upd s.write x := by
 cases hw : s.write with
 | none => rfl
 | some k =>
   cases hw' : t.write with
   | none => rfl
   | some k' =>
     have hne : k ≠ k' := by
       unfold Any.Stat.ind at h
       rw [hw, hw'] at h
       simp only [Option.toList, List.all_cons, List.all_nil, Bool.and_true, Bool.and_eq_true, Bool.not_eq_true', List.contains_eq_mem, decide_eq_false_iff_not] at h
       intro e
       apply h.1
       unfold Any.Stat.keys
       rw [hw', e]; simp
     exact Env.put_comm _ hne _ _

theorem fOp_put_good {i j : Nat} {oi oj : Oper} (hj : ops[j]? = some oj) (hap : oi.apart ops oj = true) (hsi : ∀ cs b, oi.op ≠ .select cs b) (hsj : ∀ cs b, oj.op ≠ .select cs b)
   (hind : (S i).ind (S j) = true) {K : Act → Env → Prop} {a : Act} {E : Env} (hy : Good P ops β (S i) (D i) oi a E)
   (h : ∀ v x, spec P (S i) (D i) oi a E v x → fOp P ops β S D j K (a.put oi.dst v) (E.upd (S i).write x)) :
   fOp P ops β S D j (fun a' E' => Good P ops β (S i) (D i) oi a' E' ∧ ∀ v x, spec P (S i) (D i) oi a' E' v x → K (a'.put oi.dst v) (E'.upd (S i).write x)) a E := by
 obtain ⟨h1, h2, h3⟩ := Oper.apart_spec hap
 obtain ⟨v0, x0, s0⟩ := hy.some
 have hj0 := h v0 x0 s0
 have hji := Any.Stat.ind_symm hind
 have keep : ∀ u E', agree (S i).keys E E' → Good P ops β (S i) (D i) oi (a.put oj.dst u) E' := fun u E' he =>
   ⟨by rw [wanted_put oi a oj.dst u h3]; exact hy.wanted, by obtain ⟨v, x, hs⟩ := hy.some; exact ⟨v, x, spec_env he ((spec_put hsi h3).2 hs)⟩, Valid_env β he ((Valid_put β hsi h3).2 hy.ok)⟩
 unfold fOp at *
 simp only [hj] at *
 by_cases hof : Off ops oj a
 · left
   refine ⟨hof, keep _ _ (agree.refl _ _), fun v x s => ?_⟩
   have s' := (spec_put hsi h3).1 s
   rcases h v x s' with ⟨_, hk⟩ | ⟨hg, _⟩
   · rw [← Act.put_comm a v undef h2]; exact hk
   · have hg := hg.wanted
     rw [wanted_put oj a oi.dst v h1] at hg
     unfold Off at hof; rw [hof] at hg; cases hg
 · right
   rcases hj0 with ⟨ho, _⟩ | ⟨hg, _⟩
   · unfold Off at ho hof; rw [wanted_put oj a oi.dst v0 h1] at ho; exact absurd ho hof
   · have hw := hg.wanted
     rw [wanted_put oj a oi.dst v0 h1] at hw
     have hback := (upd_agree hind E x0).symm
     refine ⟨⟨hw, ?_, Valid_env β hback ((Valid_put β hsj h1).1 hg.ok)⟩, fun u y t => ⟨keep u _ (upd_agree hji E y), fun v x s => ?_⟩⟩
     · obtain ⟨u, y, t⟩ := hg.some
       exact ⟨u, y, spec_env hback ((spec_put hsj h1).1 t)⟩
     have s1 : spec P (S i) (D i) oi a E v x := spec_env (upd_agree hji E y).symm ((spec_put hsi h3).1 s)
     have t1 : spec P (S j) (D j) oj (a.put oi.dst v) (E.upd (S i).write x) u y := (spec_put hsj h1).2 (spec_env (upd_agree hind E x) t)
     rw [upd_comm hji]
     rcases h v x s1 with ⟨ho, _⟩ | ⟨_, hk⟩
     · unfold Off at ho; rw [wanted_put oj a oi.dst v h1, hw] at ho; cases ho
     · rw [← Act.put_comm a v u h2]; exact hk u y t1
theorem fOp_put_off {j : Nat} {oi oj : Oper} (hj : ops[j]? = some oj) (hap : oi.apart ops oj = true) (hsj : ∀ cs b, oj.op ≠ .select cs b)
   {K : Act → Env → Prop} {a : Act} {E : Env} (hy : Off ops oi a) (h : fOp P ops β S D j K (a.put oi.dst undef) E) :
   fOp P ops β S D j (fun a' E' => Off ops oi a' ∧ K (a'.put oi.dst undef) E') a E := by
 obtain ⟨h1, h2, h3⟩ := Oper.apart_spec hap
 have keep : ∀ u, Off ops oi (a.put oj.dst u) := fun u => by unfold Off; rw [wanted_put oi a oj.dst u h3]; exact hy
 unfold fOp at *
 simp only [hj] at *
 rcases h with ⟨ho, hk⟩ | ⟨hg, hk⟩
 · left
   unfold Off at ho
   rw [wanted_put oj a oi.dst undef h1] at ho
   exact ⟨ho, keep _, by rw [← Act.put_comm a undef undef h2]; exact hk⟩
 · right
   have hw := hg.wanted
   rw [wanted_put oj a oi.dst undef h1] at hw
   refine ⟨⟨hw, ?_, (Valid_put β hsj h1).1 hg.ok⟩, fun u y t => ⟨keep u, by rw [← Act.put_comm a undef u h2]; exact hk u y ((spec_put hsj h1).2 t)⟩⟩
   obtain ⟨u, y, t⟩ := hg.some
   exact ⟨u, y, (spec_put hsj h1).1 t⟩

theorem first_off {Q : Act → Env → Prop} {i : Nat} {oi : Oper} (hi : ops[i]? = some oi) (hsel : ∀ (j : Nat) (o : Oper) cs b, ops[j]? = some o → o.op ≠ .select cs b) :
   ∀ (fuel : Nat) (listed : Array Bool) (a : Act) (E : Env),
     (∀ j oj, ops[j]? = some oj → j ≠ i → listed.getD j true = false → (∀ e ∈ oj.after, Region.binds md e = true → e.on ≠ i) → oi.apart ops oj = true) →
     i ∈ Region.ready md ops listed → Off ops oi a →
     wpAnyF P md ops β S D Q fuel (listed.setIfInBounds i true) (a.put oi.dst undef) E → wpAnyF P md ops β S D Q (fuel + 1) listed a E := by
 intro fuel
 have one : ∀ {K : Act → Env → Prop} {a : Act} {E : Env}, Off ops oi a → K (a.put oi.dst undef) E → fOp P ops β S D i K a E := fun ho hk => by
   unfold fOp; simp only [hi]; exact .inl ⟨ho, hk⟩
 induction fuel with
 | zero =>
   intro listed a E _ hr hy H
   refine ⟨fun h => (by rw [h] at hr; cases hr), fun j hj => ?_⟩
   by_cases hji : j = i
   · subst hji; exact one hy H
   · have := ready_mono hj hji
     rw [H.1] at this; cases this
 | succ fuel ih =>
   intro listed a E hfree hr hy H
   refine ⟨fun h => (by rw [h] at hr; cases hr), fun j hj => ?_⟩
   by_cases hji : j = i
   · subst hji; exact one hy H
   · have h1 := H.2 j (ready_mono hj hji)
     obtain ⟨hjun, oj, hoj, _⟩ := mem_ready.1 hj
     have hnot := not_ready_of hj hoj (mem_ready.1 hr).1
     have h2 := fOp_put_off β S D hoj (hfree j oj hoj hji hjun hnot) (fun cs b => hsel j oj cs b hoj) hy h1
     have hfree' : ∀ k ok, ops[k]? = some ok → k ≠ i → (listed.setIfInBounds j true).getD k true = false →
         (∀ e ∈ ok.after, Region.binds md e = true → e.on ≠ i) → oi.apart ops ok = true := fun k ok hk hki hun hno => by
       refine hfree k ok hk hki ?_ hno
       by_cases hjk : j = k
       · subst hjk; exact hjun
       · rw [getD_set_ne true hjk] at hun; exact hun
     refine fOp_mono β S D (fun a' E' h3 => ih (listed.setIfInBounds j true) a' E' hfree' (ready_mono hr (Ne.symm hji)) h3.1 ?_) h2
     rw [Array.setIfInBounds_comm _ _ hji]
     exact h3.2

theorem first_good {Q : Act → Env → Prop} {i : Nat} {oi : Oper} (hi : ops[i]? = some oi) (T : Nat → Bool) (hT : ∀ j oj, ops[j]? = some oj → T j = true → ∃ e ∈ oj.after, Region.binds md e = true ∧ (e.on = i ∨ T e.on = true)) (hsel : ∀ (j : Nat) (o : Oper) cs b, ops[j]? = some o → o.op ≠ .select cs b) :
   ∀ (fuel : Nat) (listed : Array Bool) (a : Act) (E : Env), (∀ j, T j = true → listed.getD j true = false) →
     (∀ j oj, ops[j]? = some oj → j ≠ i → listed.getD j true = false → T j = false → oi.apart ops oj = true ∧ (S i).ind (S j) = true) →
     i ∈ Region.ready md ops listed → Good P ops β (S i) (D i) oi a E →
     (∀ v x, spec P (S i) (D i) oi a E v x → wpAnyF P md ops β S D Q fuel (listed.setIfInBounds i true) (a.put oi.dst v) (E.upd (S i).write x)) → wpAnyF P md ops β S D Q (fuel + 1) listed a E := by
 intro fuel
 have one : ∀ {K : Act → Env → Prop} {a : Act} {E : Env}, Good P ops β (S i) (D i) oi a E → (∀ v x, spec P (S i) (D i) oi a E v x → K (a.put oi.dst v) (E.upd (S i).write x)) → fOp P ops β S D i K a E := fun hg hk => by
   unfold fOp; simp only [hi]; exact .inr ⟨hg, hk⟩
 induction fuel with
 | zero =>
   intro listed a E hTl hfree hr hy H
   refine ⟨fun h => (by rw [h] at hr; cases hr), fun j hj => ?_⟩
   by_cases hji : j = i
   · subst hji; exact one hy H
   · obtain ⟨v0, x0, s0⟩ := hy.some
     have := ready_mono hj hji
     rw [(H v0 x0 s0).1] at this; cases this
 | succ fuel ih =>
   intro listed a E hTl hfree hr hy H
   refine ⟨fun h => (by rw [h] at hr; cases hr), fun j hj => ?_⟩
   by_cases hji : j = i
   · subst hji; exact one hy H
   · obtain ⟨hjun, oj, hoj, _⟩ := mem_ready.1 hj
     have hnT : T j = false := by
       cases hTj : T j with
       | false => rfl
       | true =>
         obtain ⟨e, he, hb, ho⟩ := hT j oj hoj hTj
         have hun : listed.getD e.on true = false := by
           rcases ho with ho | ho
           · rw [ho]; exact (mem_ready.1 hr).1
           · exact hTl _ ho
         exact absurd rfl (not_ready_of hj hoj hun e he hb)
     obtain ⟨hap, hind⟩ := hfree j oj hoj hji hjun hnT
     have h2 := fOp_put_good β S D hoj hap (fun cs b => hsel i oi cs b hi) (fun cs b => hsel j oj cs b hoj) hind hy (fun v x s => (H v x s).2 j (ready_mono hj hji))
     have hfree' : ∀ k ok, ops[k]? = some ok → k ≠ i → (listed.setIfInBounds j true).getD k true = false →
         T k = false → oi.apart ops ok = true ∧ (S i).ind (S k) = true := fun k ok hk hki hun hno => by
       refine hfree k ok hk hki ?_ hno
       by_cases hjk : j = k
       · subst hjk; exact hjun
       · rw [getD_set_ne true hjk] at hun; exact hun
     have hTl' : ∀ k, T k = true → (listed.setIfInBounds j true).getD k true = false := fun k hk => by
       have hjk : j ≠ k := fun e => by rw [e, hk] at hnT; cases hnT
       rw [getD_set_ne true hjk]; exact hTl k hk
     refine fOp_mono β S D (fun a' E' h3 => ih (listed.setIfInBounds j true) a' E' hTl' hfree' (ready_mono hr (Ne.symm hji)) h3.1 fun v x s => ?_) h2
     rw [Array.setIfInBounds_comm _ _ hji]
     exact h3.2 v x s

def wpE (P : Program) (ops : Array Oper) (β : Base) (S : Nat → Any.Stat) (D : Nat → Kind) (Q : Act → Env → Prop) : Nat → List Oper → Act → Env → Prop
 | _, [], a, E => Q a E
 | k, o :: rest, a, E => (Off ops o a ∧ wpE P ops β S D Q (k + 1) rest (a.put o.dst undef) E) ∨
     (Good P ops β (S k) (D k) o a E ∧ ∀ v x, spec P (S k) (D k) o a E v x → wpE P ops β S D Q (k + 1) rest (a.put o.dst v) (E.upd (S k).write x))
theorem wpAnyF_lex {Q : Act → Env → Prop} (hs : Region.noSelect ops = true) : ∀ (n k : Nat) (l : List Oper) (listed : Array Bool) (a : Act) (E : Env), l.length = n → (∀ i, ops[k + i]? = l[i]?) →
   lexF md ops S n k listed = true → wpE P ops β S D Q k l a E → wpAnyF P md ops β S D Q n listed a E
 | 0, _, l, _, _, _, hl, _, hB, h => by
   cases l with
   | nil => exact ⟨by simpa [lexF] using hB, h⟩
   | cons o r => simp at hl
 | n + 1, k, l, listed, a, E, hl, ho, hB, h => by
   cases l with
   | nil => simp at hl
   | cons o r =>
     have h0 : ops[k]? = some o := by simpa using ho 0
     have hr' : ∀ i, ops[k + 1 + i]? = r[i]? := fun i => by have := ho (i + 1); rw [show k + (i + 1) = k + 1 + i from by omega] at this; simpa using this
     have hln : r.length = n := by simpa using hl
     simp only [lexF, Bool.and_eq_true] at hB
     obtain ⟨⟨⟨hr, hf⟩, hx⟩, hB'⟩ := hB
     have hr2 : k ∈ Region.ready md ops listed := by simpa using hr
     have hfree := Region.free_spec h0 hf
     unfold wpE at h
     rcases h with ⟨ho1, hk⟩ | ⟨hg, hk⟩
     · exact first_off β S D h0 (Region.noSelect_spec hs) n listed a E hfree hr2 ho1 (wpAnyF_lex hs n (k + 1) r (listed.setIfInBounds k true) _ E hln hr' hB' hk)
     · exact first_good β S D h0 (fun j => (behind md ops k).getD j false) (exB_T S hx).2 (Region.noSelect_spec hs) n listed a E (exB_T S hx).1 (fun j oj hj hne hun hno => ⟨hfree j oj hj hne hun (behind_no (listed := listed) hj hno), exB_spec S hx hj hne hun hno⟩) hr2 hg
         (fun v x s => wpAnyF_lex hs n (k + 1) r (listed.setIfInBounds k true) _ _ hln hr' hB' (hk v x s))
end
theorem wp_region {P : Program} {id : Nat} {Q : Exit → Act → World → Prop} {a : Act} {w0 w : World} {L1 L : LV} {R : LR} {l : List Oper} (S : Nat → Any.Stat) (D : Nat → Kind) (hm : P.follows .mixedOrders = true)
   (hB : lexFB .any l.toArray S = true) (hv : Mem w0 w (L1 ++ L) R)
   (h : wpE P l.toArray ⟨w0, L, R⟩ S D (fun a' E' => ∀ w', VE ⟨w0, L, R⟩ E' w' → Q .normal a' w') 0 l a (Env.of L1)) : (Code.region id l.toArray true).wp P Q a w := by
 simp only [lexFB, Bool.and_eq_true] at hB
 have hC := VE.start (L1 := L1) (hv.new (w' := w.drewN 1) ⟨rfl, rfl, rfl, Nat.le_refl _, fun _ _ => rfl⟩)
 refine wp_region_any hm (wpAny_of_F ⟨w0, L, R⟩ S D (Q := fun a' E' => ∀ w', VE ⟨w0, L, R⟩ E' w' → Q .normal a' w') (fun _ _ w' hw' h => h w' hw') _ _ _ (Env.of L1) _ hC ?_)
 have hsz : l.toArray.size = l.length := by simp
 have hlx := hB.2
 rw [hsz] at hlx
 have := wpAnyF_lex (md := .any) ⟨w0, L, R⟩ S D hB.1 l.length 0 l (Array.replicate l.length false) a (Env.of L1) rfl (fun i => by simp) hlx h
 simpa using this
section
variable {P : Program} {ops : Array Oper} {β : Base} {S : Nat → Any.Stat} {D : Nat → Kind} {Q : Act → Env → Prop} {k : Nat} {o : Oper} {rest : List Oper} {a : Act} {E : Env}
theorem E_nil (h : Q a E) : wpE P ops β S D Q k [] a E := h
theorem E_off (hw : Region.wanted o (yielded ops a.tmps) = false) (hk : wpE P ops β S D Q (k + 1) rest (a.put o.dst undef) E) : wpE P ops β S D Q k (o :: rest) a E := .inl ⟨hw, hk⟩
theorem E_val {d : Tmp} {v : Value} (hd : o.dst = some d) (hsz : decide (d < a.tmps.size) = true) (hw : Region.wanted o (yielded ops a.tmps) = true) (hS : (S k).write = none)
   (h : ∀ E', agree (S k).keys E E' → ∀ K : Act → Prop, (∀ a', a' = a.put o.dst v → K a') → o.quiet P a (VE β E') K) (hD : D k = .val v) (hk : wpE P ops β S D Q (k + 1) rest (a.put o.dst v) E) : wpE P ops β S D Q k (o :: rest) a E := by
 refine .inr ⟨⟨hw, ⟨v, Slot.none, by rw [hD]; rfl⟩, fun E' he w hv => ?_⟩, fun u x hs => ?_⟩
 · obtain ⟨u, h1, h2⟩ := h E' he (fun a' => a' = a.put o.dst v) (fun _ e => e)
   rw [hd] at h2
   have e := Act.put_inj (of_decide_eq_true hsz) h2
   refine res_of_quiet hv (h1 w hv) fun w' hw' => ⟨Slot.none, ?_, ?_⟩
   · rw [hD]; exact e
   · rw [hS]; exact hw'
 · rw [hD] at hs
   have hs : u = v := hs
   rw [hs, hS]; exact hk
theorem E_pure {v : Value} (hw : Region.wanted o (yielded ops a.tmps) = true) (hD : D k = .pure) (hS : (S k).write = none) (hr : ∀ w, (execOp a.eval o).run P w = .ok (.value v) w)
   (hk : wpE P ops β S D Q (k + 1) rest (a.put o.dst v) E) : wpE P ops β S D Q k (o :: rest) a E := by
 refine .inr ⟨⟨hw, ⟨v, Slot.none, by rw [hD]; exact ⟨β.w0, hr _⟩⟩, fun E' he w hv => ?_⟩, fun u x hs => ?_⟩
 · unfold res
   rw [hr w]
   refine ⟨Slot.none, ?_, ?_⟩
   · rw [hD]; exact ⟨w, hr w⟩
   · rw [hS]; exact hv
 · rw [hD] at hs
   obtain ⟨w, hw'⟩ := hs
   rw [hr w] at hw'
   cases hw'
   rw [hS]; exact hk
theorem E_pureq {v : Value} (hw : Region.wanted o (yielded ops a.tmps) = true) (hD : D k = .pure) (hS : (S k).write = none) (h : ∀ K : Act → Prop, (∀ a', a' = a.put o.dst v → K a') → o.quiet P a (fun _ => True) K) (hr : ∀ w, (execOp a.eval o).run P w = .ok (.value v) w)
   (hk : wpE P ops β S D Q (k + 1) rest (a.put o.dst v) E) : wpE P ops β S D Q k (o :: rest) a E := E_pure hw hD hS hr hk
theorem E_own {W : Value → Nat × Array Value → Prop} {i : Nat} (hw : Region.wanted o (yielded ops a.tmps) = true) (hD : D k = .own W) (hS : (S k).write = some i) (hs : ∃ v x, W v x)
   (h : ∀ E', agree (S k).keys E E' → ∀ w, VE β E' w → res P o a w fun v w' => ∃ x, W v x ∧ VE β (E'.put i (.row x.1 x.2)) w')
   (hk : ∀ v x, W v x → wpE P ops β S D Q (k + 1) rest (a.put o.dst v) (E.put i (.row x.1 x.2))) : wpE P ops β S D Q k (o :: rest) a E := by
 obtain ⟨v0, x0, h0⟩ := hs
 refine .inr ⟨⟨hw, ⟨v0, .row x0.1 x0.2, by rw [hD]; exact ⟨_, _, rfl, h0⟩⟩, fun E' he w hv => ?_⟩, fun u x hs => ?_⟩
 · refine res_mono (h E' he w hv) fun v w' ⟨x, h1, h2⟩ => ⟨.row x.1 x.2, ?_, ?_⟩
   · rw [hD]; exact ⟨_, _, rfl, h1⟩
   · rw [hS]; exact h2
 · rw [hD] at hs
   obtain ⟨B, c, rfl, hW⟩ := hs
   rw [hS]; exact hk u (B, c) hW
theorem E_mem {W : Value → LR → Prop} {i : Nat} (hw : Region.wanted o (yielded ops a.tmps) = true) (hD : D k = .mem W) (hS : (S k).write = some i) (hs : ∃ v R, W v R)
   (h : ∀ E', agree (S k).keys E E' → ∀ w, VE β E' w → res P o a w fun v w' => ∃ R, W v R ∧ VE β (E'.put i (.rds R)) w')
   (hk : ∀ v R, W v R → wpE P ops β S D Q (k + 1) rest (a.put o.dst v) (E.put i (.rds R))) : wpE P ops β S D Q k (o :: rest) a E := by
 obtain ⟨v0, R0, h0⟩ := hs
 refine .inr ⟨⟨hw, ⟨v0, .rds R0, by rw [hD]; exact ⟨_, rfl, h0⟩⟩, fun E' he w hv => ?_⟩, fun u x hs => ?_⟩
 · refine res_mono (h E' he w hv) fun v w' ⟨R, h1, h2⟩ => ⟨.rds R, ?_, ?_⟩
   · rw [hD]; exact ⟨_, rfl, h1⟩
   · rw [hS]; exact h2
 · rw [hD] at hs
   obtain ⟨R, rfl, hW⟩ := hs
   rw [hS]; exact hk u R hW
theorem E_slot {W : Value → Slot → Prop} {i : Nat} (hw : Region.wanted o (yielded ops a.tmps) = true) (hD : D k = .slot W) (hS : (S k).write = some i) (hs : ∃ v x, W v x)
   (h : ∀ E', agree (S k).keys E E' → ∀ w, VE β E' w → res P o a w fun v w' => ∃ x, W v x ∧ VE β (E'.put i x) w')
   (hk : ∀ v x, W v x → wpE P ops β S D Q (k + 1) rest (a.put o.dst v) (E.put i x)) : wpE P ops β S D Q k (o :: rest) a E := by
 obtain ⟨v0, x0, h0⟩ := hs
 refine .inr ⟨⟨hw, ⟨v0, x0, by rw [hD]; exact h0⟩, fun E' he w hv => ?_⟩, fun u x hs => ?_⟩
 · refine res_mono (h E' he w hv) fun v w' ⟨x, h1, h2⟩ => ⟨x, ?_, ?_⟩
   · rw [hD]; exact h1
   · rw [hS]; exact h2
 · rw [hD] at hs
   rw [hS]; exact hk u x hs
theorem E_laid {mk : Nat → Value} {z : Array Value} {t : TypeId} {i : Nat} (hw : Region.wanted o (yielded ops a.tmps) = true) (hD : D k = .own (laid mk z)) (hS : (S k).write = some i)
   (hr : ∀ w, (execOp a.eval o).run P w = .ok (.value (mk w.heap.size)) (w.alloc (.cells z t)))
   (hk : ∀ B, wpE P ops β S D Q (k + 1) rest (a.put o.dst (mk B)) (E.put i (.row B z))) : wpE P ops β S D Q k (o :: rest) a E := by
 refine E_own hw hD hS ⟨mk 0, (0, z), rfl, rfl⟩ (fun E' _ w hv => ?_) (fun v x hx => ?_)
 · unfold res
   rw [hr w]
   have hm := made_alloc w z t
   exact ⟨(w.heap.size, z), ⟨rfl, rfl⟩, hv.lay (Nat.le_refl _) hm.new hm.row hm.soft⟩
 · obtain ⟨rfl, rfl⟩ := hx
   exact hk x.1
theorem E_lay {z : Array Value} {t : TypeId} {i : Nat} (hw : Region.wanted o (yielded ops a.tmps) = true) (hD : D k = .own (laid (fun B => .pointer (some ⟨B, 0, none⟩)) z)) (hS : (S k).write = some i)
   (hr : ∀ w, (execOp a.eval o).run P w = .ok (.value (.pointer (some ⟨w.heap.size, 0, none⟩))) (w.alloc (.cells z t)))
   (hk : ∀ B, wpE P ops β S D Q (k + 1) rest (a.put o.dst (.pointer (some ⟨B, 0, none⟩))) (E.put i (.row B z))) : wpE P ops β S D Q k (o :: rest) a E :=
 E_laid hw hD hS hr hk
theorem E_laidA {mk : Nat → Value} {z : Array Value} {t : TypeId} {i : Nat} (hw : Region.wanted o (yielded ops a.tmps) = true) (hD : D k = .laidBy mk) (hS : (S k).write = some i)
   (hr : ∀ w, (execOp a.eval o).run P w = .ok (.value (mk w.heap.size)) (w.alloc (.cells z t)))
   (hk : ∀ B, wpE P ops β S D Q (k + 1) rest (a.put o.dst (mk B)) (E.put i (.row B z))) : wpE P ops β S D Q k (o :: rest) a E := by
 refine .inr ⟨⟨hw, ⟨mk 0, .row 0 z, by rw [hD]; exact ⟨_, z, t, rfl, hr, rfl⟩⟩, fun E' he w hv => ?_⟩, fun u x hs => ?_⟩
 · unfold res
   rw [hr w]
   have hm := made_alloc w z t
   refine ⟨.row w.heap.size z, by rw [hD]; exact ⟨_, z, t, rfl, hr, rfl⟩, ?_⟩
   rw [hS]
   exact hv.lay (x := (w.heap.size, z)) (Nat.le_refl _) hm.new hm.row hm.soft
 · rw [hD] at hs
   obtain ⟨B, z', t', rfl, h1, rfl⟩ := hs
   obtain ⟨w9⟩ : Nonempty World := ⟨β.w0⟩
   have h := (hr w9).symm.trans (h1 w9)
   have e : w9.alloc (.cells z t) = w9.alloc (.cells z' t') := by injection h
   have ez : z = z' := by
     have g : (w9.alloc (.cells z t)).rowD w9.heap.size = (w9.alloc (.cells z' t')).rowD w9.heap.size := by rw [e]
     rw [(made_alloc w9 z t).row, (made_alloc w9 z' t').row] at g
     exact g
   rw [hS, ← ez]
   exact hk B
theorem E_bslR {n kk : Nat} {z : Array Value} {t : TypeId} {i : Nat} (hw : Region.wanted o (yielded ops a.tmps) = true) (hD : D k = .mem (fun v R => ∃ B, v = .slice (some ⟨B, 0, none⟩) n n ∧ R = [(kk, v, z.toList)])) (hS : (S k).write = some i)
   (hr : ∀ w, (execOp a.eval o).run P w = .ok (.value (.slice (some ⟨w.heap.size, 0, none⟩) n n)) (w.alloc (.cells z t))) (hz : z.size = n * kk) (hn : n ≤ maxLen)
   (hk : ∀ B, wpE P ops β S D Q (k + 1) rest (a.put o.dst (.slice (some ⟨B, 0, none⟩) n n)) (E.put i (.rds [(kk, .slice (some ⟨B, 0, none⟩) n n, z.toList)]))) : wpE P ops β S D Q k (o :: rest) a E := by
 refine E_mem hw hD hS ⟨_, _, 0, rfl, rfl⟩ (fun E' _ w hv => ?_) (fun v R hx => ?_)
 · unfold res
   rw [hr w]
   refine ⟨_, ⟨w.heap.size, rfl, rfl⟩, ?_⟩
   have hm := made_alloc w z t
   obtain ⟨ks, h1, h2, h3, hM⟩ := hv.split i
   refine VE.join h1 h2 h3 ?_
   have hM2 := (hM.keep (L' := rowsE E' ks ++ β.L) (List.sublist_append_right _ _)).bsl' (k := kk) (n := n) (c := z.toList) ⟨rfl, hm⟩ rfl hz hn
   exact hM2.keepR fun y hy => by
     rcases List.mem_append.1 hy with hy | hy
     · obtain rfl := List.mem_singleton.1 hy; exact Mem.z
     · exact Mem.s (List.mem_append_right _ hy)
 · obtain ⟨B, rfl, rfl⟩ := hx
   exact hk B
theorem E_put {T : TypeId} {px py : Operand} {i B off : Nat} {c0 c : Array Value} (hw : Region.wanted o (yielded ops a.tmps) = true) (hD : D k = .put) (hS : (S k).write = some i) (ho : o.op = .store T px py) (hp : a.eval px = .pointer (some ⟨B, off, none⟩)) (hE : E i = .row B c0)
   (hc : splice c0 off (a.eval py).cells = c) (hr : ∀ w, w.rowD B = c0 → w.soft B = true → ∃ w', (execOp a.eval o).run P w = .ok .skip w' ∧ Wrote w w' B c)
   (hk : wpE P ops β S D Q (k + 1) rest (a.put o.dst undef) (E.put i (.row B c))) : wpE P ops β S D Q k (o :: rest) a E := by
 have hmem : i ∈ (S k).keys := by unfold Any.Stat.keys; rw [hS]; simp
 refine .inr ⟨⟨hw, ⟨undef, .row B c, ?_⟩, fun E' he w hv => ?_⟩, fun u x hs => ?_⟩
 · rw [hD]
   exact ⟨rfl, T, px, py, off, B, c0, i, hS, ho, hp, hE, by rw [hc]⟩
 · have hE' : E' i = .row B c0 := by rw [he i hmem]; exact hE
   obtain ⟨h1, h2⟩ := hv.row hE'
   obtain ⟨w', r, hw'⟩ := hr w h1 h2
   unfold res
   rw [r]
   refine ⟨.row B c, ?_, ?_⟩
   · rw [hD]
     exact ⟨rfl, T, px, py, off, B, c0, i, hS, ho, hp, hE', by rw [hc]⟩
   · rw [hS]; exact hv.fill hE' hw'
 · rw [hD] at hs
   obtain ⟨rfl, T', px', py', off', B', c1, k', g1, g2, g3, g4, g5⟩ := hs
   rw [hS] at g1
   cases g1
   rw [ho] at g2
   cases g2
   rw [hp] at g3
   rw [hE] at g4
   cases g3
   cases g4
   rw [hS, g5, hc]
   exact hk
end
section
variable {P : Program} {ops : Array Oper} {β : Base} {S : Nat → Any.Stat} {D : Nat → Kind} {Q : Act → Env → Prop} {k : Nat} {rest : List Oper} {a : Act} {E : Env}
variable {dst : Option Tmp} {ty T : TypeId} {pos : String} {after : Array Edge} {g : Option (Nat × Bool)} {x y : Operand} {xs : Array Operand} {ts : Array TypeId}
theorem at_ealloc (h : wpE P ops β S D Q k (⟨dst, .alloc T, ty, pos, after, g⟩ :: rest) a E) : wpE P ops β S D Q k (⟨dst, .alloc T, ty, pos, after, g⟩ :: rest) a E := h
theorem at_ebsl {n : Nat} {ps : Array (Nat × Operand)} (h : wpE P ops β S D Q k (⟨dst, .buildSlice T n ps, ty, pos, after, g⟩ :: rest) a E) : wpE P ops β S D Q k (⟨dst, .buildSlice T n ps, ty, pos, after, g⟩ :: rest) a E := h
theorem at_estore (h : wpE P ops β S D Q k (⟨dst, .store T x y, ty, pos, after, g⟩ :: rest) a E) : wpE P ops β S D Q k (⟨dst, .store T x y, ty, pos, after, g⟩ :: rest) a E := h
theorem at_ecall (h : wpE P ops β S D Q k (⟨dst, .call { callee := .value x, args := xs, argTypes := ts }, ty, pos, after, g⟩ :: rest) a E) : wpE P ops β S D Q k (⟨dst, .call { callee := .value x, args := xs, argTypes := ts }, ty, pos, after, g⟩ :: rest) a E := h
theorem at_ebuild {T : TypeId} {ps : Array (Nat × Operand)} (h : wpE P ops β S D Q k (⟨dst, .build T ps, ty, pos, after, g⟩ :: rest) a E) : wpE P ops β S D Q k (⟨dst, .build T ps, ty, pos, after, g⟩ :: rest) a E := h
theorem E_putv {i B : Nat} {c0 c : Array Value} (hw : Region.wanted (⟨dst, .store T x y, ty, pos, after, g⟩ : Oper) (yielded ops a.tmps) = true) (hD : D k = .put) (hS : (S k).write = some i) (hx : a.eval x = .pointer (some ⟨B, 0, none⟩)) (hE : E i = .row B c0)
   (hy : a.eval y = .agg c) (n : Nat) (hi : (P.info? T).map (·.size) = some n) (hc : c.size = n) (h0 : c0.size = n) (h1 : c.all (·.oneCell') = true)
   (hk : wpE P ops β S D Q (k + 1) rest (a.put dst undef) (E.put i (.row B c))) : wpE P ops β S D Q k (⟨dst, .store T x y, ty, pos, after, g⟩ :: rest) a E :=
 E_put hw hD hS rfl hx hE (by rw [hy]; exact splice_whole (h0.trans hc.symm)) (fun w hr hs => run_stv (o := ⟨dst, .store T x y, ty, pos, after, g⟩) w T x y rfl B c hx hy n hi hc h1 hs (by rw [hr]; exact h0)) hk
theorem E_putc {i B off : Nat} {c0 : Array Value} {v : Value} (hw : Region.wanted (⟨dst, .store T x y, ty, pos, after, g⟩ : Oper) (yielded ops a.tmps) = true) (hD : D k = .put) (hS : (S k).write = some i) (hx : a.eval x = .pointer (some ⟨B, off, none⟩)) (hE : E i = .row B c0)
   (hy : a.eval y = v) (hi : (P.info? T).map (·.size) = some 1) (h1 : v.oneCell' = true) (h0 : off < c0.size)
   (hk : wpE P ops β S D Q (k + 1) rest (a.put dst undef) (E.put i (.row B (c0.setIfInBounds off v)))) : wpE P ops β S D Q k (⟨dst, .store T x y, ty, pos, after, g⟩ :: rest) a E :=
 E_put hw hD hS rfl hx hE (by rw [hy, oneCell_cells h1]; exact splice_one h0) (fun w hr hs => by have := run_stc (P := P) (a := a) (o := ⟨dst, .store T x y, ty, pos, after, g⟩) w T x y rfl B off v hx hy hi h1 hs (by rw [hr]; exact h0); rw [hr] at this; exact this) hk
theorem E_build {T : TypeId} {ps : Array (Nat × Operand)} (hw : Region.wanted (⟨dst, .build T ps, ty, pos, after, g⟩ : Oper) (yielded ops a.tmps) = true) (hD : D k = .pure) (hS : (S k).write = none) (vs : List (Nat × Value)) (hp : ps.toList.map (fun p => (p.1, a.eval p.2)) = vs) {cells : Array Value} (h : P.built T vs = some cells)
   (hk : wpE P ops β S D Q (k + 1) rest (a.put dst (.agg cells)) E) : wpE P ops β S D Q k (⟨dst, .build T ps, ty, pos, after, g⟩ :: rest) a E := by
 refine E_pure hw hD hS (fun w => ?_) hk
 have h' := run_build (P := P) w T (ps.map fun (i, x) => (i, a.eval x)) cells (by rw [Array.toList_map, ← h, ← hp])
 unfold execOp
 simp only [Sem.run_bind, h', Result.andThen_ok, Sem.run_pure]
def Known (β : Base) (E : Env) (ks : List Nat) (x : Nat × Value × List Value) : Prop := x ∈ β.R ∨ ∃ j ∈ ks, x ∈ (E j).reads
theorem Known.rd {E' : Env} {ks : List Nat} {x : Nat × Value × List Value} {w : World} (h : Known β E ks x) (hA : agree ks E E') (hv : VE β E' w) : Rd w x.1 x.2.1 x.2.2 := by
 obtain ⟨L, R, hm, h1, h2, _⟩ := hv.all
 rcases h with h | ⟨j, hj, h⟩
 · exact (hm.rds x (h1 x h)).1
 · rw [← hA j hj] at h
   exact (hm.rds x (h2 j x h)).1
theorem E_callmem {f : FuncId} {cap : Array Value} {W : Value → LR → Prop} {i : Nat} (hw : Region.wanted (⟨dst, .call { callee := .value x, args := xs, argTypes := ts }, ty, pos, after, g⟩ : Oper) (yielded ops a.tmps) = true)
   (hD : D k = .mem W) (hS : (S k).write = some i) (hf : Go.Proofs.Enters P f) (hx : a.eval x = .func (.func f) #[] cap) (vs : List Value) (hv : xs.toList.map a.eval = vs) (hs : ∃ v R, W v R)
   (Rc : LR) (hR : ∀ x ∈ Rc, Known β E (S k).keys x)
   (hc : ∀ w0 w L R, Mem w0 w L R → (∀ x ∈ Rc, x ∈ R) → Calls P f (vs.toArray ++ cap) w fun e w' => ∃ v R', e = .returned v ∧ W v R' ∧ Mem w0 w' L R' ∧ ∀ x ∈ R, x ∈ R')
   (hk : ∀ v R, W v R → wpE P ops β S D Q (k + 1) rest (a.put dst v) (E.put i (.rds R))) : wpE P ops β S D Q k (⟨dst, .call { callee := .value x, args := xs, argTypes := ts }, ty, pos, after, g⟩ :: rest) a E := by
 refine E_mem hw hD hS hs (fun E' he w hv' => ?_) hk
 unfold res
 rw [run_callv hf hx vs hv w]
 obtain ⟨L, R, hm, h1, h2, h3⟩ := hv'.all
 refine (hc β.w0 w L R hm fun x hx => ?_).mono fun e w' ⟨v, R', g1, g2, g3, g4⟩ => ⟨v, g1, R', g2, h3 i R' w' g3 g4⟩
 rcases hR x hx with h | ⟨j, hj, h⟩
 · exact h1 x h
 · rw [← he j hj] at h
   exact h2 j x h
end
/-! Loads. -/
section
variable {P : Program} {β : Base} {E E' : Env} {a : Act} {K : Act → Prop} {dst : Option Tmp} {ty T : TypeId} {pos : String} {after : Array Edge} {g : Option (Nat × Bool)} {x : Operand} {ks : List Nat}
theorem at_qload {C : World → Prop} (h : Oper.quiet P ⟨dst, .load T x, ty, pos, after, g⟩ a C K) : Oper.quiet P ⟨dst, .load T x, ty, pos, after, g⟩ a C K := h
theorem q_ldv (i : Nat) (hA : agree ks E E') (hm : i ∈ ks) {B : Nat} {c : Array Value} (hx : a.eval x = .pointer (some ⟨B, 0, none⟩)) (hE : E i = .row B c) (n : Nat) (d : TypeDesc)
   (hu : P.underlying T = some d) (hd : d.isRow = true) (hi : (P.info? T).map (·.size) = some n) (hn : 0 < n) (hs : c.size = n) (hk : K (a.put dst (.agg c))) : Oper.quiet P ⟨dst, .load T x, ty, pos, after, g⟩ a (VE β E') K :=
 quiet_load_any T x rfl B 0 hx n d hu hd hi hn c (fun w hw => by
   have := (hw.row (i := i) (B := B) (c := c) (by rw [hA i hm]; exact hE)).1
   rw [this, hs]; exact ⟨by omega, by subst hs; simp⟩) hk
theorem q_ldp (i : Nat) (hA : agree ks E E') (hm : i ∈ ks) {B o : Nat} {c : Array Value} (hx : a.eval x = .pointer (some ⟨B, o, none⟩)) (hE : E i = .row B c) (n : Nat) (d : TypeDesc)
   (hu : P.underlying T = some d) (hd : d.isRow = true) (hi : (P.info? T).map (·.size) = some n) (hn : 0 < n) (hs : o + n ≤ c.size) (v : Array Value) (hv : c.extract o (o + n) = v) (hk : K (a.put dst (.agg v))) : Oper.quiet P ⟨dst, .load T x, ty, pos, after, g⟩ a (VE β E') K :=
 quiet_load_any T x rfl B o hx n d hu hd hi hn v (fun w hw => by
   have := (hw.row (i := i) (B := B) (c := c) (by rw [hA i hm]; exact hE)).1
   rw [this]; exact ⟨hs, hv⟩) hk
theorem q_ldc (i : Nat) (hA : agree ks E E') (hm : i ∈ ks) {B o : Nat} {c : Array Value} (hx : a.eval x = .pointer (some ⟨B, o, none⟩)) (hE : E i = .row B c) (d : TypeDesc)
   (hu : P.underlying T = some d) (hd : d.isRow = false) (v : Value) (hv : c[o]? = some v) (hk : K (a.put dst v)) : Oper.quiet P ⟨dst, .load T x, ty, pos, after, g⟩ a (VE β E') K :=
 quiet_load_cell T x rfl B o hx d hu hd v (fun w hw => by
   have := (hw.row (i := i) (B := B) (c := c) (by rw [hA i hm]; exact hE)).1
   rw [this]; exact hv) hk
theorem q_rdv {kk b o n cap : Nat} {c : List Value} (hr : Known β E ks (kk, .slice (some ⟨b, o, none⟩) n cap, c)) (hA : agree ks E E') (i : Nat)
   (hx : a.eval x = .pointer (some ⟨b, o + i, none⟩)) (m : Nat) (d : TypeDesc) (hu : P.underlying T = some d) (hd : d.isRow = true) (hi : (P.info? T).map (·.size) = some m) (h0 : 0 < m) (v : Array Value) (hv : (c.drop i).take m = v.toList) (hm : v.size = m) (hk : K (a.put dst (.agg v))) : Oper.quiet P ⟨dst, .load T x, ty, pos, after, g⟩ a (VE β E') K :=
 quiet_load_any T x rfl b (o + i) hx m d hu hd hi h0 v (fun w hw => rd_cells (hr.rd hA hw) i m v hv hm h0) hk
end
inductive Mark where
 | val
 | put
 | pure
 | own (W : Value → Nat × Array Value → Prop)
 | rel (V : Value → Prop)
 | laidBy (mk : Nat → Value)
 | mem (W : Value → LR → Prop)
 | slot (W : Value → Slot → Prop)
abbrev Mark.lay (z : Array Value) : Mark := .own (laid (fun B => .pointer (some ⟨B, 0, none⟩)) z)
abbrev Mark.bslR (kk n : Nat) (z : Array Value) : Mark := .mem (fun v R => ∃ B, v = .slice (some ⟨B, 0, none⟩) n n ∧ R = [(kk, v, z.toList)])
def kindOf (ms : List Mark) (vs : List Value) (i : Nat) : Kind := match ms.getD i .val with
 | .val => .val (vs.getD i undef)
 | .put => .put
 | .pure => .pure
 | .own W => .own W
 | .laidBy mk => .laidBy mk
 | .mem W => .mem W
 | .slot W => .slot W
 | .rel V => .rel V
theorem wp_region_walk {P : Program} {id : Nat} {Q : Exit → Act → World → Prop} {a : Act} {w0 w : World} (L1 L : LV) {R : LR} {l : List Oper} (ss : List Any.Stat) (ms : List Mark) (hm : P.follows .mixedOrders = true)
   (hB : lexFB .any l.toArray (fun i => ss.getD i ⟨[], none⟩) = true) (hv : Mem w0 w (L1 ++ L) R)
   (h : someVals l.length fun vs => wpE P l.toArray ⟨w0, L, R⟩ (fun i => ss.getD i ⟨[], none⟩) (kindOf ms vs) (fun a' E' => ∀ w', VE ⟨w0, L, R⟩ E' w' → Q .normal a' w') 0 l a (Env.of L1)) : (Code.region id l.toArray true).wp P Q a w :=
 of_someVals _ (fun vs h => wp_region (fun i => ss.getD i ⟨[], none⟩) (kindOf ms vs) hm hB hv h) h
theorem calls_VE {P : Program} {f : FuncId} {args : Array Value} {β : Base} {w : World} {v : Value} {E : Env} (h : Calls P f args w fun e w' => e = .returned v ∧ New w w') (hv : VE β E w) :
   Calls P f args w fun e w' => e = .returned v ∧ VE β E w' := h.mono fun _ _ ⟨a, b⟩ => ⟨a, hv.new b⟩
end Bny
end Go

/-! Regions that draw, in short: sparse tables of what is read and written, the end over Mem, operations by lemmas whose small parts are found by themselves. -/
namespace Go
namespace Bny
open Go.RowKit
open Go.Any (lexFB someVals of_someVals)
def mkF (l : List (Nat × Mark)) (i : Nat) : Mark := match l.find? (·.1 == i) with
 | some p => p.2
 | none => .val
def kindF (ms : List (Nat × Mark)) (vs : List Value) (i : Nat) : Kind := match mkF ms i with
 | .val => .val (vs.getD i undef)
 | .put => .put
 | .pure => .pure
 | .own W => .own W
 | .laidBy mk => .laidBy mk
 | .mem W => .mem W
 | .slot W => .slot W
 | .rel V => .rel V
section
variable {P : Program} {id : Nat} {Q : Exit → Act → World → Prop} {a : Act} {w0 w : World} {L L' : LV} {R : LR} {l : List Oper} {x0 x1 x2 x3 x4 x5 x6 x7 x8 x9 x10 x11 : Nat × Array Value}
theorem wrM (L1 L : LV) (n : Nat) (st : List (Nat × List Nat × Option Nat)) (mk : List (Nat × Mark)) (hv : Mem w0 w (L1 ++ L) R)
   (h : someVals n fun vs => wpE P l.toArray ⟨w0, L, R⟩ (Any.stF st) (kindF mk vs) (fun a' E' => ∀ w', VE ⟨w0, L, R⟩ E' w' → Q .normal a' w') 0 l a (Env.of L1))
   (hn : l.length = n) (hm : P.follows .mixedOrders = true) (hB : lexFB .any l.toArray (Any.stF st) = true) : (Code.region id l.toArray true).wp P Q a w := by
 subst hn
 exact of_someVals _ (fun vs h => wp_region (Any.stF st) (kindF mk vs) hm hB hv h) h
theorem wr1 (n : Nat) (st : List (Nat × List Nat × Option Nat)) (mk : List (Nat × Mark)) (hv : Mem w0 w (x0 :: L) R)
   (h : someVals n fun vs => wpE P l.toArray ⟨w0, L, R⟩ (Any.stF st) (kindF mk vs) (fun a' E' => ∀ w', VE ⟨w0, L, R⟩ E' w' → Q .normal a' w') 0 l a (Env.of [x0]))
   (hn : l.length = n := by exact rfl) (hm : P.follows .mixedOrders = true := by kernel_rfl) (hB : lexFB .any l.toArray (Any.stF st) = true := by kernel_rfl) : (Code.region id l.toArray true).wp P Q a w := wrM [x0] L n st mk hv h hn hm hB
theorem wr2 (n : Nat) (st : List (Nat × List Nat × Option Nat)) (mk : List (Nat × Mark)) (hv : Mem w0 w (x0 :: x1 :: L) R)
   (h : someVals n fun vs => wpE P l.toArray ⟨w0, L, R⟩ (Any.stF st) (kindF mk vs) (fun a' E' => ∀ w', VE ⟨w0, L, R⟩ E' w' → Q .normal a' w') 0 l a (Env.of [x0, x1]))
   (hn : l.length = n := by exact rfl) (hm : P.follows .mixedOrders = true := by kernel_rfl) (hB : lexFB .any l.toArray (Any.stF st) = true := by kernel_rfl) : (Code.region id l.toArray true).wp P Q a w := wrM [x0, x1] L n st mk hv h hn hm hB
theorem wr3 (n : Nat) (st : List (Nat × List Nat × Option Nat)) (mk : List (Nat × Mark)) (hv : Mem w0 w (x0 :: x1 :: x2 :: L) R)
   (h : someVals n fun vs => wpE P l.toArray ⟨w0, L, R⟩ (Any.stF st) (kindF mk vs) (fun a' E' => ∀ w', VE ⟨w0, L, R⟩ E' w' → Q .normal a' w') 0 l a (Env.of [x0, x1, x2]))
   (hn : l.length = n := by exact rfl) (hm : P.follows .mixedOrders = true := by kernel_rfl) (hB : lexFB .any l.toArray (Any.stF st) = true := by kernel_rfl) : (Code.region id l.toArray true).wp P Q a w := wrM [x0, x1, x2] L n st mk hv h hn hm hB
theorem wr4 (n : Nat) (st : List (Nat × List Nat × Option Nat)) (mk : List (Nat × Mark)) (hv : Mem w0 w (x0 :: x1 :: x2 :: x3 :: L) R)
   (h : someVals n fun vs => wpE P l.toArray ⟨w0, L, R⟩ (Any.stF st) (kindF mk vs) (fun a' E' => ∀ w', VE ⟨w0, L, R⟩ E' w' → Q .normal a' w') 0 l a (Env.of [x0, x1, x2, x3]))
   (hn : l.length = n := by exact rfl) (hm : P.follows .mixedOrders = true := by kernel_rfl) (hB : lexFB .any l.toArray (Any.stF st) = true := by kernel_rfl) : (Code.region id l.toArray true).wp P Q a w := wrM [x0, x1, x2, x3] L n st mk hv h hn hm hB
inductive Gets (E : Env) (L : LV) : List Nat → LV → Prop
 | nil : Gets E L [] L
 | cons {k : Nat} {ks : List Nat} {B : Nat} {c : Array Value} {L' : LV} (h : E k = .row B c) (hr : Gets E L ks L') : Gets E L (k :: ks) ((B, c) :: L')
theorem Gets.eq {E : Env} {L L' : LV} {ks : List Nat} (h : Gets E L ks L') : rowsE E ks ++ L = L' := by
 induction h with
 | nil => rfl
 | cons h _ ih => rw [← ih]; show ((E _).rows ++ rowsE E _) ++ L = _; rw [h]; rfl
variable {ops : Array Oper} {β : Base} {S : Nat → Any.Stat} {D : Nat → Kind} {k : Nat} {E : Env} {Q2 : Act → World → Prop} {R' : LR}
theorem fin (ks : List Nat) (h : ∀ w', Mem β.w0 w' L' β.R → Q2 a w') (hg : Gets E β.L ks L' := by repeat first | exact .nil | (apply Bny.Gets.cons; · exact rfl)) (hn : ks.Nodup := by decide) :
   wpE P ops β S D (fun a' E' => ∀ w', VE β E' w' → Q2 a' w') k [] a E :=
 E_nil fun w' hE => h w' (by rw [← hg.eq]; exact hE.mem0 ks hn)
theorem finr (ks : List Nat) (i : Nat) (h : ∀ w', Mem β.w0 w' L' R' → Q2 a w') (hE : E i = .rds R' := by exact rfl) (hg : Gets E β.L ks L' := by repeat first | exact .nil | (apply Bny.Gets.cons; · exact rfl)) (hn : ks.Nodup := by decide) :
   wpE P ops β S D (fun a' E' => ∀ w', VE β E' w' → Q2 a' w') k [] a E :=
 E_nil fun w' hV => h w' (by rw [← hg.eq]; exact hV.mem1 ks hn i hE)
end
section
variable {P : Program} {ops : Array Oper} {β : Base} {S : Nat → Any.Stat} {D : Nat → Kind} {Q : Act → Env → Prop} {k : Nat} {o : Oper} {rest : List Oper} {a : Act} {E : Env}
theorem ePq {v : Value} (hk : wpE P ops β S D Q (k + 1) rest (a.put o.dst v) E) (hw : Region.wanted o (yielded ops a.tmps) = true := by exact rfl) (hD : D k = .pure := by exact rfl) (hS : (S k).write = none := by exact rfl)
   (h : ∀ K : Act → Prop, (∀ a', a' = a.put o.dst v → K a') → o.quiet P a (fun _ => True) K := by intro K hK; go_big_quiet_op; (refine hK _ ?_; rfl)) (hr : ∀ w, (execOp a.eval o).run P w = .ok (.value v) w := by exact fun _ => rfl) : wpE P ops β S D Q k (o :: rest) a E := E_pure hw hD hS hr hk
theorem eV {d : Tmp} {v : Value} (hk : wpE P ops β S D Q (k + 1) rest (a.put o.dst v) E) (hd : o.dst = some d := by exact rfl) (hsz : decide (d < a.tmps.size) = true := by exact rfl) (hw : Region.wanted o (yielded ops a.tmps) = true := by exact rfl) (hS : (S k).write = none := by exact rfl)
   (h : ∀ E', agree (S k).keys E E' → ∀ K : Act → Prop, (∀ a', a' = a.put o.dst v → K a') → o.quiet P a (VE β E') K := by intro E' hA K hK; go_big_quiet_op; first | (refine hK _ ?_; rfl) | (refine ⟨_, fun _ _ => rfl, ?_⟩; refine hK _ ?_; rfl)) (hD : D k = .val v := by exact rfl) : wpE P ops β S D Q k (o :: rest) a E := E_val hd hsz hw hS h hD hk
variable {d : Tmp} {ty : TypeId} {pos : String} {after : Array Edge} {g : Option (Nat × Bool)} {x y : Operand}
theorem gE (T : TypeId) (h : wpE P ops β S D Q k (⟨some d, .load T x, ty, pos, after, g⟩ :: rest) a E) : wpE P ops β S D Q k (⟨some d, .load T x, ty, pos, after, g⟩ :: rest) a E := h
theorem eC {T : TypeId} (i : Nat) (v : Value) {de : TypeDesc} (hu : P.underlying T = some de) (hk : wpE P ops β S D Q (k + 1) rest (a.put (some d) v) E) {B off : Nat} {c : Array Value}
   (hw : Region.wanted (⟨some d, .load T x, ty, pos, after, g⟩ : Oper) (yielded ops a.tmps) = true := by exact rfl) (hS : (S k).write = none := by exact rfl) (hx : a.eval x = .pointer (some ⟨B, off, none⟩) := by exact rfl) (hm : i ∈ (S k).keys := by decide) (hE : E i = .row B c := by exact rfl)
   (hd : de.isRow = false := by exact rfl) (hc : c[off]? = some v := by exact rfl) (hsz : decide (d < a.tmps.size) = true := by exact rfl) (hD : D k = .val v := by exact rfl) : wpE P ops β S D Q k (⟨some d, .load T x, ty, pos, after, g⟩ :: rest) a E :=
 E_val rfl hsz hw hS (fun E' hA K hK => q_ldc i hA hm hx hE de hu hd v hc (hK _ rfl)) hD hk
theorem eW {T : TypeId} (i n : Nat) {de : TypeDesc} (hu : P.underlying T = some de) (hi : (P.info? T).map (·.size) = some n) {B : Nat} {c : Array Value} (hk : wpE P ops β S D Q (k + 1) rest (a.put (some d) (.agg c)) E)
   (hw : Region.wanted (⟨some d, .load T x, ty, pos, after, g⟩ : Oper) (yielded ops a.tmps) = true := by exact rfl) (hS : (S k).write = none := by exact rfl) (hx : a.eval x = .pointer (some ⟨B, 0, none⟩) := by exact rfl) (hm : i ∈ (S k).keys := by decide) (hE : E i = .row B c := by exact rfl)
   (hd : de.isRow = true := by exact rfl) (hn : 0 < n := by decide) (hs : c.size = n := by exact rfl) (hsz : decide (d < a.tmps.size) = true := by exact rfl) (hD : D k = .val (.agg c) := by exact rfl) : wpE P ops β S D Q k (⟨some d, .load T x, ty, pos, after, g⟩ :: rest) a E :=
 E_val rfl hsz hw hS (fun E' hA K hK => q_ldv i hA hm hx hE n de hu hd hi hn hs (hK _ rfl)) hD hk
end
end Bny
end Go
