import Derived.Test.YtjmibgomkgkhnaaGreatAnyB
set_option linter.unusedSimpArgs false
set_option linter.unusedVariables false
section
/-
 A region that draws its order and holds one call that makes whatever memory: what comes before the call in every order is walked in the text's order; the call at its world; the rest in the text's order again. No program in sight.
-/
namespace Go
namespace Any
open Go.RowKit
section
variable {P : Program} {ops : Array Oper} {md : Region.Mode} (β : Base) (S : Nat → Stat) (D : Nat → Kind)
def wpAnyC (P : Program) (md : Region.Mode) (ops : Array Oper) (β : Base) (S : Nat → Stat) (D : Nat → Kind) (c : Nat) (H : Nat → Array Bool → Act → World → Prop) : Nat → Array Bool → Act → Env → Prop
 | 0, _, _, _ => False
 | fuel + 1, listed, a, E => Region.ready md ops listed ≠ [] ∧ ∀ i ∈ Region.ready md ops listed, (i = c → ∀ w, VE β E w → H fuel listed a w) ∧ (i ≠ c → fOp P ops β S D i (wpAnyC P md ops β S D c H fuel (listed.setIfInBounds i true)) a E)
theorem wpAny_of_C {c : Nat} {Q' : Exit → Act → World → Prop} : ∀ (fuel : Nat) (listed : Array Bool) (a : Act) (E : Env) (w : World), VE β E w →
   wpAnyC P md ops β S D c (fun fuel listed a w => wpOp P ops Q' c (wpAny P md ops Q' fuel (listed.setIfInBounds c true)) a w) fuel listed a E → wpAny P md ops Q' fuel listed a w
 | 0, _, _, _, _, _, h => h.elim
 | fuel + 1, listed, a, E, w, hw, h => ⟨fun h0 => absurd h0 h.1, fun i hi => by
     by_cases hic : i = c
     · subst hic
       exact (h.2 _ hi).1 rfl w hw
     · exact wpOp_of_fOp β S D hw (fun a' E' w' hw' => wpAny_of_C fuel _ a' E' w' hw') ((h.2 i hi).2 hic)⟩
variable {c : Nat} {H : Nat → Array Bool → Act → World → Prop}
theorem first_offC {i : Nat} {oi : Oper} (hi : ops[i]? = some oi) (hic : i ≠ c) (T : Nat → Bool) (hT : ∀ j oj, ops[j]? = some oj → T j = true → ∃ e ∈ oj.after, Region.binds md e = true ∧ (e.on = i ∨ T e.on = true)) (hTc : T c = true) (hsel : ∀ (j : Nat) (o : Oper) cs b, ops[j]? = some o → o.op ≠ .select cs b) :
   ∀ (fuel : Nat) (listed : Array Bool) (a : Act) (E : Env), (∀ j, T j = true → listed.getD j true = false) →
     (∀ j oj, ops[j]? = some oj → j ≠ i → listed.getD j true = false → T j = false → oi.apart ops oj = true) →
     i ∈ Region.ready md ops listed → Off ops oi a →
     wpAnyC P md ops β S D c H fuel (listed.setIfInBounds i true) (a.put oi.dst undef) E → wpAnyC P md ops β S D c H (fuel + 1) listed a E := by
 intro fuel
 have one : ∀ {K : Act → Env → Prop} {a : Act} {E : Env}, Off ops oi a → K (a.put oi.dst undef) E → fOp P ops β S D i K a E := fun ho hk => by
   unfold fOp; simp only [hi]; exact .inl ⟨ho, hk⟩
 induction fuel with
 | zero => intro listed a E _ _ _ _ h; exact h.elim
 | succ fuel ih =>
   intro listed a E hTl hfree hr hy HH
   refine ⟨fun h => (by rw [h] at hr; cases hr), fun j hj => ?_⟩
   by_cases hji : j = i
   · subst hji; exact ⟨fun e => absurd e hic, fun _ => one hy HH⟩
   · obtain ⟨hjun, oj, hoj, _⟩ := mem_ready.1 hj
     have hnT : T j = false := by
       cases hTj : T j with
       | false => rfl
       | true =>
         obtain ⟨e, he, hb, ho⟩ := hT j oj hoj hTj
         have hun : listed.getD e.on true = false := by
           rcases ho with ho | ho
           · rw [ho]; exact (mem_ready.1 hr).1
           · exact hTl _ ho
         exact absurd rfl (not_ready_of hj hoj hun e he hb)
     have hjc : j ≠ c := fun e => by rw [e, hTc] at hnT; cases hnT
     refine ⟨fun e => absurd e hjc, fun _ => ?_⟩
     have h1 := (HH.2 j (ready_mono hj hji)).2 hjc
     have h2 := fOp_put_off β S D hoj (hfree j oj hoj hji hjun hnT) (fun cs b => hsel j oj cs b hoj) hy h1
     have hfree' : ∀ k ok, ops[k]? = some ok → k ≠ i → (listed.setIfInBounds j true).getD k true = false → T k = false → oi.apart ops ok = true := fun k ok hk hki hun hno => by
       refine hfree k ok hk hki ?_ hno
       by_cases hjk : j = k
       · subst hjk; exact hjun
       · rw [getD_set_ne true hjk] at hun; exact hun
     have hTl' : ∀ k, T k = true → (listed.setIfInBounds j true).getD k true = false := fun k hk => by
       have hjk : j ≠ k := fun e => by rw [e, hk] at hnT; cases hnT
       rw [getD_set_ne true hjk]; exact hTl k hk
     refine fOp_mono β S D (fun a' E' h3 => ih (listed.setIfInBounds j true) a' E' hTl' hfree' (ready_mono hr (Ne.symm hji)) h3.1 ?_) h2
     rw [Array.setIfInBounds_comm _ _ hji]
     exact h3.2
theorem first_goodC {i : Nat} {oi : Oper} (hi : ops[i]? = some oi) (hic : i ≠ c) (T : Nat → Bool) (hT : ∀ j oj, ops[j]? = some oj → T j = true → ∃ e ∈ oj.after, Region.binds md e = true ∧ (e.on = i ∨ T e.on = true)) (hTc : T c = true) (hsel : ∀ (j : Nat) (o : Oper) cs b, ops[j]? = some o → o.op ≠ .select cs b) :
   ∀ (fuel : Nat) (listed : Array Bool) (a : Act) (E : Env), (∀ j, T j = true → listed.getD j true = false) →
     (∀ j oj, ops[j]? = some oj → j ≠ i → listed.getD j true = false → T j = false → oi.apart ops oj = true ∧ (S i).ind (S j) = true) →
     i ∈ Region.ready md ops listed → Good P ops β (S i) (D i) oi a E →
     (∀ v x, spec P (S i) (D i) oi a E v x → wpAnyC P md ops β S D c H fuel (listed.setIfInBounds i true) (a.put oi.dst v) (E.upd (S i).write x)) → wpAnyC P md ops β S D c H (fuel + 1) listed a E := by
 intro fuel
 have one : ∀ {K : Act → Env → Prop} {a : Act} {E : Env}, Good P ops β (S i) (D i) oi a E → (∀ v x, spec P (S i) (D i) oi a E v x → K (a.put oi.dst v) (E.upd (S i).write x)) → fOp P ops β S D i K a E := fun hg hk => by
   unfold fOp; simp only [hi]; exact .inr ⟨hg, hk⟩
 induction fuel with
 | zero =>
   intro listed a E _ _ _ hy h
   obtain ⟨v0, x0, s0⟩ := hy.some
   exact (h v0 x0 s0).elim
 | succ fuel ih =>
   intro listed a E hTl hfree hr hy HH
   refine ⟨fun h => (by rw [h] at hr; cases hr), fun j hj => ?_⟩
   by_cases hji : j = i
   · subst hji; exact ⟨fun e => absurd e hic, fun _ => one hy HH⟩
   · obtain ⟨hjun, oj, hoj, _⟩ := mem_ready.1 hj
     have hnT : T j = false := by
       cases hTj : T j with
       | false => rfl
       | true =>
         obtain ⟨e, he, hb, ho⟩ := hT j oj hoj hTj
         have hun : listed.getD e.on true = false := by
           rcases ho with ho | ho
           · rw [ho]; exact (mem_ready.1 hr).1
           · exact hTl _ ho
         exact absurd rfl (not_ready_of hj hoj hun e he hb)
     have hjc : j ≠ c := fun e => by rw [e, hTc] at hnT; cases hnT
     refine ⟨fun e => absurd e hjc, fun _ => ?_⟩
     obtain ⟨hap, hind⟩ := hfree j oj hoj hji hjun hnT
     have h2 := fOp_put_good β S D hoj hap (fun cs b => hsel i oi cs b hi) (fun cs b => hsel j oj cs b hoj) hind hy (fun v x s => ((HH v x s).2 j (ready_mono hj hji)).2 hjc)
     have hfree' : ∀ k ok, ops[k]? = some ok → k ≠ i → (listed.setIfInBounds j true).getD k true = false → T k = false → oi.apart ops ok = true ∧ (S i).ind (S k) = true := fun k ok hk hki hun hno => by
       refine hfree k ok hk hki ?_ hno
       by_cases hjk : j = k
       · subst hjk; exact hjun
       · rw [getD_set_ne true hjk] at hun; exact hun
     have hTl' : ∀ k, T k = true → (listed.setIfInBounds j true).getD k true = false := fun k hk => by
       have hjk : j ≠ k := fun e => by rw [e, hk] at hnT; cases hnT
       rw [getD_set_ne true hjk]; exact hTl k hk
     refine fOp_mono β S D (fun a' E' h3 => ih (listed.setIfInBounds j true) a' E' hTl' hfree' (ready_mono hr (Ne.symm hji)) h3.1 fun v x s => ?_) h2
     rw [Array.setIfInBounds_comm _ _ hji]
     exact h3.2 v x s
def marks : Nat → Nat → Array Bool → Array Bool
 | 0, _, l => l
 | n + 1, k, l => marks n (k + 1) (l.setIfInBounds k true)
def lexC (md : Region.Mode) (ops : Array Oper) (S : Nat → Stat) (c : Nat) : Nat → Nat → Array Bool → Bool
 | 0, _, _ => true
 | n + 1, k, listed => (Region.ready md ops listed).contains k && Region.free md ops listed k && exB md ops S listed k && (behind md ops k).getD c false && (k != c) && lexC md ops S c n (k + 1) (listed.setIfInBounds k true)
theorem wpAnyC_lex (m : Nat) (hs : Region.noSelect ops = true) : ∀ (n k : Nat) (l : List Oper) (listed : Array Bool) (a : Act) (E : Env), l.length = n → (∀ i, i < n → ops[k + i]? = l[i]?) →
   lexC md ops S c n k listed = true → wpE P ops β S D (fun a E => wpAnyC P md ops β S D c H m (marks n k listed) a E) k l a E → wpAnyC P md ops β S D c H (n + m) listed a E
 | 0, _, l, _, _, _, hl, _, hB, h => by
   cases l with
   | nil => rw [Nat.zero_add]; exact h
   | cons o r => simp at hl
 | n + 1, k, l, listed, a, E, hl, ho, hB, h => by
   cases l with
   | nil => simp at hl
   | cons o r =>
     have h0 : ops[k]? = some o := by simpa using ho 0 (by omega)
     have hr' : ∀ i, i < n → ops[k + 1 + i]? = r[i]? := fun i hi => by have := ho (i + 1) (by omega); rw [show k + (i + 1) = k + 1 + i from by omega] at this; simpa using this
     have hln : r.length = n := by simpa using hl
     simp only [lexC, Bool.and_eq_true] at hB
     obtain ⟨⟨⟨⟨⟨hr, hf⟩, hx⟩, hbc⟩, hkc⟩, hB'⟩ := hB
     have hkc' : k ≠ c := by simpa using hkc
     have hr2 : k ∈ Region.ready md ops listed := by simpa using hr
     have hfree := Region.free_spec h0 hf
     rw [show n + 1 + m = (n + m) + 1 from by omega]
     unfold wpE at h
     rcases h with ⟨ho1, hk⟩ | ⟨hg, hk⟩
     · exact first_offC β S D h0 hkc' (fun j => (behind md ops k).getD j false) (exB_T S hx).2 hbc (Region.noSelect_spec hs) (n + m) listed a E (exB_T S hx).1 (fun j oj hj hne hun hno => hfree j oj hj hne hun (behind_no (listed := listed) hj hno)) hr2 ho1
         (wpAnyC_lex m hs n (k + 1) r (listed.setIfInBounds k true) _ E hln hr' hB' hk)
     · exact first_goodC β S D h0 hkc' (fun j => (behind md ops k).getD j false) (exB_T S hx).2 hbc (Region.noSelect_spec hs) (n + m) listed a E (exB_T S hx).1 (fun j oj hj hne hun hno => ⟨hfree j oj hj hne hun (behind_no (listed := listed) hj hno), exB_spec S hx hj hne hun hno⟩) hr2 hg
         (fun v x s => wpAnyC_lex m hs n (k + 1) r (listed.setIfInBounds k true) _ _ hln hr' hB' (hk v x s))
theorem wpAnyC_at {fuel : Nat} {listed : Array Bool} {a : Act} {E : Env} (hr : Region.ready md ops listed = [c]) (h : ∀ w, VE β E w → H fuel listed a w) : wpAnyC P md ops β S D c H (fuel + 1) listed a E :=
 ⟨by rw [hr]; exact List.cons_ne_nil _ _, fun i hi => by
   rw [hr] at hi
   obtain rfl := List.mem_singleton.1 hi
   exact ⟨fun _ => h, fun hne => absurd rfl hne⟩⟩
end
theorem wp_region_cut {P : Program} {id : Nat} {Q : Exit → Act → World → Prop} {a : Act} {w0 w : World} {L : List (Nat × Array Value)} {l : List Oper} (c : Nat) (ss : List Stat) (ms : List Mark) (hm : P.follows .mixedOrders = true)
   (hB : (decide (c < l.length) && Region.noSelect l.toArray && lexC .any l.toArray (fun i => ss.getD i ⟨[], none⟩) c c 0 (Array.replicate l.length false) && (Region.ready .any l.toArray (marks c 0 (Array.replicate l.length false)) == [c])) = true) (hv : Vars w0 w L)
   (h : someVals c fun vs => wpE P l.toArray ⟨w0, w.drewN 1, L.map (·.1)⟩ (fun i => ss.getD i ⟨[], none⟩) (kindOf ms vs) (fun a' E' => ∀ w', VE ⟨w0, w.drewN 1, L.map (·.1)⟩ E' w' →
     wpOp P l.toArray Q c (wpAny P .any l.toArray Q (l.length - (c + 1)) (marks (c + 1) 0 (Array.replicate l.length false))) a' w') 0 (l.take c) a (Env.of L)) : (Code.region id l.toArray true).wp P Q a w := by
 simp only [Bool.and_eq_true, decide_eq_true_eq, beq_iff_eq] at hB
 obtain ⟨⟨⟨hc, hs⟩, hl⟩, hr⟩ := hB
 refine of_someVals _ (fun vs h => ?_) h
 have hC := VE.start (hv.drewN 1)
 have hsz : l.toArray.size = l.length := by simp
 have hmk : ∀ (n k : Nat) (x : Array Bool), marks (n + 1) k x = (marks n k x).setIfInBounds (k + n) true := by
   intro n
   induction n with
   | zero => intro k x; rfl
   | succ n ih =>
     intro k x
     show marks (n + 1) (k + 1) (x.setIfInBounds k true) = _
     rw [ih (k + 1)]
     show _ = (marks n (k + 1) (x.setIfInBounds k true)).setIfInBounds (k + (n + 1)) true
     rw [show k + 1 + n = k + (n + 1) from by omega]
 refine wp_region_any hm (wpAny_of_C ⟨w0, w.drewN 1, L.map (·.1)⟩ (fun i => ss.getD i ⟨[], none⟩) (kindOf ms vs) (c := c) _ _ _ (Env.of L) _ hC ?_)
 rw [hsz]
 have key := wpAnyC_lex (P := P) (md := .any) (c := c) (H := fun fuel listed a w => wpOp P l.toArray Q c (wpAny P .any l.toArray Q fuel (listed.setIfInBounds c true)) a w) ⟨w0, w.drewN 1, L.map (·.1)⟩ (fun i => ss.getD i ⟨[], none⟩) (kindOf ms vs) (l.length - (c + 1) + 1) hs c 0 (l.take c) (Array.replicate l.length false) a (Env.of L) (by rw [List.length_take]; omega) (fun i hi => by simp [List.getElem?_take, hi]) hl
 rw [show c + (l.length - (c + 1) + 1) = l.length from by omega] at key
 refine key ?_
 have hmono : ∀ (k : Nat) (r : List Oper) (a : Act) (E : Env) {Q1 Q2 : Act → Env → Prop}, (∀ a E, Q1 a E → Q2 a E) → wpE P l.toArray ⟨w0, w.drewN 1, L.map (·.1)⟩ (fun i => ss.getD i ⟨[], none⟩) (kindOf ms vs) Q1 k r a E → wpE P l.toArray ⟨w0, w.drewN 1, L.map (·.1)⟩ (fun i => ss.getD i ⟨[], none⟩) (kindOf ms vs) Q2 k r a E := by
   intro k r
   induction r generalizing k with
   | nil => intro a E Q1 Q2 hq h; exact hq a E h
   | cons o r ih =>
     intro a E Q1 Q2 hq h
     unfold wpE at h ⊢
     rcases h with ⟨h1, h2⟩ | ⟨h1, h2⟩
     · exact .inl ⟨h1, ih _ _ _ hq h2⟩
     · exact .inr ⟨h1, fun v x s => ih _ _ _ hq (h2 v x s)⟩
 refine hmono 0 (l.take c) a (Env.of L) (fun a' E' hh => ?_) h
 refine wpAnyC_at _ _ _ hr fun w' hw' => ?_
 have e := hmk c 0 (Array.replicate l.length false)
 rw [Nat.zero_add] at e
 rw [← e]
 exact hh w' hw'
theorem wpAny_rest {P : Program} {Q : Exit → Act → World → Prop} {a : Act} {w0 w : World} {L : List (Nat × Array Value)} {l : List Oper} (k : Nat) (ss : List Stat) (ms : List Mark)
   (hB : (Region.noSelect l.toArray && lexF .any l.toArray (fun i => ss.getD (i - k) ⟨[], none⟩) (l.length - k) k (marks k 0 (Array.replicate l.length false))) = true) (hv : Vars w0 w L)
   (h : someVals (l.length - k) fun vs => wpE P l.toArray ⟨w0, w, L.map (·.1)⟩ (fun i => ss.getD (i - k) ⟨[], none⟩) (fun i => kindOf ms vs (i - k)) (fun a' E' => ∀ w', VE ⟨w0, w, L.map (·.1)⟩ E' w' → Q .normal a' w') k (l.drop k) a (Env.of L)) :
   wpAny P .any l.toArray Q (l.length - k) (marks k 0 (Array.replicate l.length false)) a w := by
 simp only [Bool.and_eq_true] at hB
 refine of_someVals _ (fun vs h => ?_) h
 refine wpAny_of_F ⟨w0, w, L.map (·.1)⟩ (fun i => ss.getD (i - k) ⟨[], none⟩) (fun i => kindOf ms vs (i - k)) (Q := fun a' E' => ∀ w', VE ⟨w0, w, L.map (·.1)⟩ E' w' → Q .normal a' w') (fun _ _ w' hw' h => h w' hw') _ _ _ (Env.of L) _ (VE.start hv) ?_
 exact wpAnyF_lex (md := .any) _ _ _ hB.1 (l.length - k) k (l.drop k) _ a (Env.of L) (by rw [List.length_drop]) (fun i => by simp [List.getElem?_drop]) hB.2 h
section
variable {P : Program} {ops : Array Oper} {Q : Exit → Act → World → Prop} {a : Act} {w : World} {K : Act → World → Prop} {i : Nat}
variable {dst : Option Tmp} {ty : TypeId} {pos : String} {after : Array Edge} {g : Option (Nat × Bool)} {x : Operand}
theorem wpOp_callv {xs : Array Operand} {ts : Array TypeId} {f : FuncId} {cap : Array Value} (hi : ops[i]? = some ⟨dst, .call { callee := .value x, args := xs, argTypes := ts }, ty, pos, after, g⟩) (hw : Region.wanted (⟨dst, .call { callee := .value x, args := xs, argTypes := ts }, ty, pos, after, g⟩ : Oper) (yielded ops a.tmps) = true)
   (hf : Go.Proofs.Enters P f) (hx : a.eval x = .func (.func f) #[] cap) (vs : List Value) (hv : xs.toList.map a.eval = vs) (h : Calls P f (vs.toArray ++ cap) w fun e w' => ∃ v, e = .returned v ∧ K (a.put dst v) w') : wpOp P ops Q i K a w := by
 unfold wpOp
 simp only [hi]
 rw [if_pos hw]
 left
 refine wp_of_res (R := fun v w' => K (a.put dst v) w') ?_ fun v w' h => h
 unfold res
 rw [run_callv hf hx vs hv w]
 exact h
end
end Any
end Go
namespace Go
open Go.RowKit
theorem Any.VE.mem0 {w0 w w9 : World} {L : List (Nat × Array Value)} {R : List (Nat × Value × List Value)} {E : Any.Env} (h : Any.VE ⟨w0, w, L.map (·.1)⟩ E w9) (hm : Mem w0 w L R) (ks : List Nat) (hn : ks.Nodup) : Mem w0 w9 (ks.filterMap E) R :=
 ⟨h.vars ks hn, fun x hx => by
   obtain ⟨h1, h2⟩ := hm.rds x hx
   have h2' : x.2.2 ≠ [] → ∀ b o n cap, x.2.1 = .slice (some ⟨b, o, none⟩) n cap → b ∉ L.map (·.1) := fun hc b o n cap e hb => by
     obtain ⟨p, hp, rfl⟩ := List.mem_map.1 hb
     exact h2 hc p.1 o n cap e p hp rfl
   refine ⟨h.rdold h1 h2', fun hc b o n cap e p hp hpb => ?_⟩
   obtain ⟨i, _, hi⟩ := List.mem_filterMap.1 hp
   rcases h.inX i p.1 p.2 hi with g | g
   · exact h2' hc b o n cap e (by rw [← hpb]; exact g)
   · rw [e] at h1
     have := h1.lt hc
     simp only at g this
     omega⟩
end Go
end

section
/-
 A region that draws: append of a slice that is read; a region cut at a call, with one operation that may come before or behind it. No program in sight.
-/
namespace Go
open Go.RowKit
theorem Any.VE.memr0 {w0 w w9 : World} {L1 L : List (Nat × Array Value)} {R : List (Nat × Value × List Value)} {E : Any.Env} (h : Any.VE ⟨w0, w, L1.map (·.1)⟩ E w9) (hm : Mem w0 w (L1 ++ L) R) (ks : List Nat) (hn : ks.Nodup) : Mem w0 w9 (ks.filterMap E ++ L) R := by
 have hm1 : Mem w0 w L1 R := hm.keep (List.sublist_append_left _ _)
 have h1 := h.mem0 hm1 ks hn
 have ha := hm.vars.apart
 rw [List.map_append, List.nodup_append] at ha
 have old : ∀ p ∈ L, p.1 < w.heap.size ∧ p.1 ∉ L1.map (·.1) := fun p hp =>
   ⟨soft_lt (hm.vars.rows p (List.mem_append_right _ hp)).2.1, fun hX => ha.2.2 p.1 hX p.1 (List.mem_map_of_mem hp) rfl⟩
 refine ⟨⟨h1.vars.below, fun p hp => ?_, ?_⟩, fun x hx => ⟨(h1.rds x hx).1, fun hc b o n cap e p hp => ?_⟩⟩
 · rcases List.mem_append.1 hp with hp | hp
   · exact h1.vars.rows p hp
   · obtain ⟨g1, g2, g3⟩ := hm.vars.rows p (List.mem_append_right _ hp)
     obtain ⟨o1, o2⟩ := old p hp
     have hf := h.frame p.1 o1 o2
     exact ⟨(rowD_congr hf).trans g1, (soft_congr hf).trans g2, g3⟩
 · rw [List.map_append, List.nodup_append]
   refine ⟨h1.vars.apart, ha.2.1, fun a ha' c hc e => ?_⟩
   subst e
   obtain ⟨p, hp, rfl⟩ := List.mem_map.1 ha'
   obtain ⟨p', hp', e'⟩ := List.mem_map.1 hc
   obtain ⟨i, _, hi⟩ := List.mem_filterMap.1 hp
   obtain ⟨o1, o2⟩ := old p' hp'
   rcases h.inX i p.1 p.2 hi with g | g
   · exact o2 (by rw [e']; exact g)
   · simp only at g
     have : w.heap.size ≤ p.1 := g
     omega
 · rcases List.mem_append.1 hp with hp | hp
   · exact (h1.rds x hx).2 hc b o n cap e p hp
   · exact (hm.rds x hx).2 hc b o n cap e p (List.mem_append_right _ hp)
namespace Any
section
variable {P : Program} {ops : Array Oper} {β : Base} {S : Nat → Stat} {D : Nat → Kind} {Q : Act → Env → Prop} {k : Nat} {rest : List Oper} {a : Act} {E : Env}
variable {dst : Option Tmp} {ty t e : TypeId} {pos : String} {after : Array Edge} {g : Option (Nat × Bool)} {x y : Operand}
end
section
variable {P : Program} {ops : Array Oper} {md : Region.Mode} (β : Base) (S : Nat → Stat) (D : Nat → Kind)
end
end Any
end Go
end
