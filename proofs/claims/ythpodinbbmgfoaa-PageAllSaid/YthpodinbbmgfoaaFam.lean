/-
  A region that draws its order, some of whose operations lay or fill blocks of the call's own: one walk in the text's order serves every order. No program in sight.
-/
import Derived.Test.YthpodinbbmgfoaaKit
namespace Go
namespace Fam
section
variable {P : Program} {ops : Array Oper} {md : Region.Mode} {ι : Type}

/-- What an operation that changes the class leaves: a value and a class that the step allows. -/
def effUpon (S : Value → ι → Prop) (C : ι → World → Prop) : Result Next → Prop
  | .ok (.value v) w' => ∃ E', S v E' ∧ C E' w'
  | .ok .skip w' => ∃ E', S undef E' ∧ C E' w'
  | _ => False
def effAt (P : Program) (o : Oper) (a : Act) (S : Value → ι → Prop) (C : ι → World → Prop) (w : World) : Prop := effUpon S C ((execOp a.eval o).run P w)

/-- The plan of a region: which operations are quiet, with which value; which change the class, by which step; which of those may come in any order. -/
structure Plan (ι : Type) where
  C : ι → World → Prop
  eff : Nat → Bool
  vals : Nat → Value
  step : Nat → ι → Value → ι → Prop
  free : Nat → Bool
def Plan.val {ι : Type} (p : Plan ι) (i : Nat) : Option Value := if p.eff i then none else some (p.vals i)

variable (p : Plan ι)
/-- Operation i comes up. -/
def fOp (P : Program) (ops : Array Oper) (p : Plan ι) (i : Nat) (K : Act → ι → Prop) (a : Act) (E : ι) : Prop :=
  match ops[i]? with
  | none => K a E
  | some o =>
    if Region.wanted o (yielded ops a.tmps) then
      match p.val i with
      | some v => (∀ E w, p.C E w → o.quietAt P a (p.C E) w v) ∧ K (a.put o.dst v) E
      | none => (∀ E', (p.free i = true ∨ E' = E) → ∀ w, p.C E' w → effAt P o a (p.step i E') p.C w) ∧ ∀ v E', p.step i E v E' → K (a.put o.dst v) E'
    else K (a.put o.dst undef) E

theorem fOp_mono {i : Nat} {a : Act} {E : ι} {K K' : Act → ι → Prop} (h : ∀ a E, K a E → K' a E) (hh : fOp P ops p i K a E) : fOp P ops p i K' a E := by
  unfold fOp at *
  split
  · rename_i ho; simp only [ho] at hh; exact h _ _ hh
  · rename_i o ho
    simp only [ho] at hh
    split
    · rename_i hw
      simp only [hw, if_true] at hh
      cases hv : p.val i with
      | some v => simp only [hv] at hh ⊢; exact ⟨hh.1, h _ _ hh.2⟩
      | none => simp only [hv] at hh ⊢; exact ⟨hh.1, fun v E' s => h _ _ (hh.2 v E' s)⟩
    · rename_i hw; simp only [hw, Bool.false_eq_true, if_false] at hh; exact h _ _ hh

/-- Whatever order is picked from here on. -/
def wpAnyF (P : Program) (md : Region.Mode) (ops : Array Oper) (p : Plan ι) (Q : Act → ι → Prop) : Nat → Array Bool → Act → ι → Prop
  | 0, listed, a, E => Region.ready md ops listed = [] ∧ Q a E
  | fuel + 1, listed, a, E =>
    (Region.ready md ops listed = [] → Q a E) ∧
    ∀ i ∈ Region.ready md ops listed, fOp P ops p i (wpAnyF P md ops p Q fuel (listed.setIfInBounds i true)) a E

theorem wpOp_of_fOp {i : Nat} {a : Act} {E : ι} {K : Act → ι → Prop} {K' : Act → World → Prop} {Q' : Exit → Act → World → Prop} {w : World} (hC : p.C E w) (h : ∀ a E w', p.C E w' → K a E → K' a w') (hh : fOp P ops p i K a E) : wpOp P ops Q' i K' a w := by
  unfold fOp at hh
  unfold wpOp
  split
  · rename_i ho; simp only [ho] at hh; exact h _ _ _ hC hh
  · rename_i o ho
    simp only [ho] at hh
    split
    · rename_i hw
      simp only [hw, if_true] at hh
      left
      cases hv : p.val i with
      | some v =>
        simp only [hv] at hh
        exact Oper.wp_of_quiet (C := p.C E) (K := fun a' => K a' E) hC (fun a' w' hw' hk => h a' E w' hw' hk) ⟨v, hh.1 E, hh.2⟩
      | none =>
        simp only [hv] at hh
        have he := hh.1 E (.inr rfl) w hC
        unfold effAt at he
        unfold Oper.wp
        generalize (execOp a.eval o).run P w = r at *
        cases r with
        | ok n w' =>
          cases n <;> simp only [effUpon] at he <;> simp only [Oper.upon]
          case value u => obtain ⟨E', s, hc⟩ := he; exact h _ _ _ hc (hh.2 _ _ s)
          case skip => obtain ⟨E', s, hc⟩ := he; exact h _ _ _ hc (hh.2 _ _ s)
        | halt x w' => simp only [effUpon] at he
    · rename_i hw; simp only [hw, Bool.false_eq_true, if_false] at hh; exact h _ _ _ hC hh

theorem wpAny_of_F {Q : Act → ι → Prop} {Q' : Exit → Act → World → Prop} (hQ : ∀ a E w, p.C E w → Q a E → Q' .normal a w) : ∀ (fuel : Nat) (listed : Array Bool) (a : Act) (E : ι) (w : World), p.C E w →
    wpAnyF P md ops p Q fuel listed a E → wpAny P md ops Q' fuel listed a w
  | 0, _, _, _, _, hw, h => ⟨h.1, hQ _ _ _ hw h.2⟩
  | fuel + 1, _, _, _, _, hw, h => ⟨fun h0 => hQ _ _ _ hw (h.1 h0), fun i hi => wpOp_of_fOp p hw (fun a' E' w' hw' => wpAny_of_F hQ fuel _ a' E' w' hw') (h.2 i hi)⟩


/-! ### An operation with one outcome may be taken first. -/
def One (P : Program) (ops : Array Oper) (p : Plan ι) (i : Nat) (o : Oper) (v : Value) (a : Act) : Prop :=
  (Region.wanted o (yielded ops a.tmps) = true ∧ p.val i = some v ∧ ∀ E w, p.C E w → o.quietAt P a (p.C E) w v) ∨ (Region.wanted o (yielded ops a.tmps) = false ∧ v = undef)
theorem One.fOp {i : Nat} {o : Oper} {v : Value} {a : Act} {E : ι} (hi : ops[i]? = some o) (hy : One P ops p i o v a) {K : Act → ι → Prop} (h : K (a.put o.dst v) E) : fOp P ops p i K a E := by
  unfold Fam.fOp
  simp only [hi]
  rcases hy with ⟨hw, hv, hq⟩ | ⟨hw, rfl⟩
  · simp only [hw, if_true, hv]; exact ⟨hq, h⟩
  · simp only [hw, Bool.false_eq_true, if_false]; exact h
theorem One.keep {i : Nat} {o : Oper} {v : Value} {a : Act} (hs : ∀ cs b, o.op ≠ .select cs b) (hy : One P ops p i o v a) {dst : Option Tmp} (hd : ∀ d, dst = some d → d ∉ o.looksAt ops) (u : Value) : One P ops p i o v (a.put dst u) := by
  unfold One Oper.quietAt at *
  rw [wanted_put o a dst u hd, execOp_put o hs a dst u hd]
  exact hy
theorem fOp_put_one {i j : Nat} {oi oj : Oper} {v : Value} (hj : ops[j]? = some oj) (hap : oi.apart ops oj = true) (hsi : ∀ cs b, oi.op ≠ .select cs b) (hsj : ∀ cs b, oj.op ≠ .select cs b)
    {K : Act → ι → Prop} {a : Act} {E : ι} (hy : One P ops p i oi v a) (h : Fam.fOp P ops p j K (a.put oi.dst v) E) :
    Fam.fOp P ops p j (fun a' E' => One P ops p i oi v a' ∧ K (a'.put oi.dst v) E') a E := by
  obtain ⟨h1, h2, h3⟩ := Oper.apart_spec hap
  have keep : ∀ u, One P ops p i oi v (a.put oj.dst u) := fun u => hy.keep p hsi h3 u
  unfold Fam.fOp at *
  simp only [hj] at *
  rw [wanted_put oj a oi.dst v h1] at h
  split
  · rename_i hw
    simp only [hw, if_true] at h
    cases hv : p.val j with
    | some u =>
      simp only [hv] at h ⊢
      refine ⟨fun E' w hw' => ?_, keep u, by rw [← Act.put_comm a v u h2]; exact h.2⟩
      have := h.1 E' w hw'
      unfold Oper.quietAt at *
      rwa [execOp_put oj hsj a oi.dst v h1] at this
    | none =>
      simp only [hv] at h ⊢
      refine ⟨fun E' hE w hw' => ?_, fun u E' s => ⟨keep u, by rw [← Act.put_comm a v u h2]; exact h.2 u E' s⟩⟩
      have := h.1 E' hE w hw'
      unfold effAt at *
      rwa [execOp_put oj hsj a oi.dst v h1] at this
  · rename_i hw
    simp only [hw, Bool.false_eq_true, if_false] at h
    exact ⟨keep _, by rw [← Act.put_comm a v undef h2]; exact h⟩

/-! ### An operation that changes the class may be taken first. -/
def Eff (P : Program) (ops : Array Oper) (p : Plan ι) (i : Nat) (o : Oper) (a : Act) (E : ι) : Prop :=
  Region.wanted o (yielded ops a.tmps) = true ∧ p.val i = none ∧ ∀ E', (p.free i = true ∨ E' = E) → ∀ w, p.C E' w → effAt P o a (p.step i E') p.C w
theorem Eff.fOp {i : Nat} {o : Oper} {a : Act} {E : ι} (hi : ops[i]? = some o) (hy : Eff P ops p i o a E) {K : Act → ι → Prop} (h : ∀ v E', p.step i E v E' → K (a.put o.dst v) E') : Fam.fOp P ops p i K a E := by
  unfold Fam.fOp
  simp only [hi, hy.1, if_true, hy.2.1]
  exact ⟨hy.2.2, h⟩
theorem Eff.keep {i : Nat} {o : Oper} {a : Act} {E : ι} (hs : ∀ cs b, o.op ≠ .select cs b) (hy : Eff P ops p i o a E) {dst : Option Tmp} (hd : ∀ d, dst = some d → d ∉ o.looksAt ops) (u : Value) : Eff P ops p i o (a.put dst u) E := by
  unfold Eff effAt at *
  rw [wanted_put o a dst u hd, execOp_put o hs a dst u hd]
  exact hy
theorem Eff.other {i : Nat} {o : Oper} {a : Act} {E E' : ι} (hf : p.free i = true) (hy : Eff P ops p i o a E) : Eff P ops p i o a E' := ⟨hy.1, hy.2.1, fun E2 _ => hy.2.2 E2 (.inl hf)⟩
/-- What is asked of the steps: each has an outcome; two free ones commute. -/
structure Plan.Good (p : Plan ι) : Prop where
  some : ∀ i E, ∃ v E', p.step i E v E'
  comm : ∀ i j E u E1 v E2, p.free i = true → p.free j = true → i ≠ j → p.step j E u E1 → p.step i E1 v E2 → ∃ E1', p.step i E v E1' ∧ p.step j E1' u E2
theorem fOp_put_eff (hg : p.Good) {i j : Nat} {oi oj : Oper} (hij : j ≠ i) (hj : ops[j]? = some oj) (hap : oi.apart ops oj = true) (hsi : ∀ cs b, oi.op ≠ .select cs b) (hsj : ∀ cs b, oj.op ≠ .select cs b)
    (hpair : p.val j = none → p.free i = true ∧ p.free j = true) {K : Act → ι → Prop} {a : Act} {E : ι} (hy : Eff P ops p i oi a E) (h : ∀ v E1, p.step i E v E1 → Fam.fOp P ops p j K (a.put oi.dst v) E1) :
    Fam.fOp P ops p j (fun a' E' => Eff P ops p i oi a' E' ∧ ∀ v E1, p.step i E' v E1 → K (a'.put oi.dst v) E1) a E := by
  obtain ⟨h1, h2, h3⟩ := Oper.apart_spec hap
  have keep : ∀ u, Eff P ops p i oi (a.put oj.dst u) E := fun u => hy.keep p hsi h3 u
  obtain ⟨v0, E0, s0⟩ := hg.some i E
  have h0 := h v0 E0 s0
  unfold Fam.fOp at *
  simp only [hj] at *
  rw [wanted_put oj a oi.dst v0 h1] at h0
  split
  · rename_i hw
    simp only [hw, if_true] at h0
    cases hv : p.val j with
    | some u =>
      simp only [hv] at h0 h ⊢
      refine ⟨fun E' w hw' => ?_, keep u, fun v E1 s => ?_⟩
      · have := h0.1 E' w hw'
        unfold Oper.quietAt at *
        rwa [execOp_put oj hsj a oi.dst v0 h1] at this
      · have h' := h v E1 s
        rw [wanted_put oj a oi.dst v h1] at h'
        simp only [hw, if_true] at h'
        rw [← Act.put_comm a v u h2]; exact h'.2
    | none =>
      obtain ⟨fi, fj⟩ := hpair hv
      simp only [hv] at h0 h ⊢
      refine ⟨fun E' _ w hw' => ?_, fun u E1 s => ⟨(keep u).other p fi, fun v E2 s2 => ?_⟩⟩
      · have := h0.1 E' (.inl fj) w hw'
        unfold effAt at *
        rwa [execOp_put oj hsj a oi.dst v0 h1] at this
      · obtain ⟨E1', t1, t2⟩ := hg.comm i j E u E1 v E2 fi fj (Ne.symm hij) s s2
        have h' := h v E1' t1
        rw [wanted_put oj a oi.dst v h1] at h'
        simp only [hw, if_true] at h'
        rw [← Act.put_comm a v u h2]; exact h'.2 u E2 t2
  · rename_i hw
    refine ⟨keep _, fun v E1 s => ?_⟩
    have h' := h v E1 s
    rw [wanted_put oj a oi.dst v h1] at h'
    simp only [hw, Bool.false_eq_true, if_false] at h'
    rw [← Act.put_comm a v undef h2]; exact h'

theorem not_ready_of {i j : Nat} {oj : Oper} {listed : Array Bool} (hj : j ∈ Region.ready md ops listed) (hoj : ops[j]? = some oj) (hun : listed.getD i true = false) : ∀ e ∈ oj.after, Region.binds md e = true → e.on ≠ i := by
  obtain ⟨_, o, ho, hall⟩ := mem_ready.1 hj
  have : o = oj := Option.some.inj (ho.symm.trans hoj)
  subst this
  intro e he hb heq
  have h1 := hall e he hb
  rw [heq] at h1
  rcases Nat.lt_or_ge i listed.size with h' | h'
  · simp [h'] at hun h1; rw [hun] at h1; cases h1
  · simp [Array.getElem?_eq_none h'] at h1

theorem first_one {Q : Act → ι → Prop} {i : Nat} {oi : Oper} {v : Value} (hi : ops[i]? = some oi) (hsel : ∀ (j : Nat) (o : Oper) cs b, ops[j]? = some o → o.op ≠ .select cs b) :
    ∀ (fuel : Nat) (listed : Array Bool) (a : Act) (E : ι),
      (∀ j oj, ops[j]? = some oj → j ≠ i → listed.getD j true = false → (∀ e ∈ oj.after, Region.binds md e = true → e.on ≠ i) → oi.apart ops oj = true) →
      i ∈ Region.ready md ops listed → One P ops p i oi v a →
      wpAnyF P md ops p Q fuel (listed.setIfInBounds i true) (a.put oi.dst v) E → wpAnyF P md ops p Q (fuel + 1) listed a E := by
  intro fuel
  induction fuel with
  | zero =>
    intro listed a E _ hr hy H
    refine ⟨fun h => (by rw [h] at hr; cases hr), fun j hj => ?_⟩
    by_cases hji : j = i
    · subst hji; exact hy.fOp p hi H
    · have := ready_mono hj hji
      rw [H.1] at this; cases this
  | succ fuel ih =>
    intro listed a E hfree hr hy H
    refine ⟨fun h => (by rw [h] at hr; cases hr), fun j hj => ?_⟩
    by_cases hji : j = i
    · subst hji; exact hy.fOp p hi H
    · have h1 := H.2 j (ready_mono hj hji)
      obtain ⟨hjun, oj, hoj, _⟩ := mem_ready.1 hj
      have hnot := not_ready_of hj hoj (mem_ready.1 hr).1
      have h2 := fOp_put_one p hoj (hfree j oj hoj hji hjun hnot) (fun cs b => hsel i oi cs b hi) (fun cs b => hsel j oj cs b hoj) hy h1
      have hfree' : ∀ k ok, ops[k]? = some ok → k ≠ i → (listed.setIfInBounds j true).getD k true = false →
          (∀ e ∈ ok.after, Region.binds md e = true → e.on ≠ i) → oi.apart ops ok = true := fun k ok hk hki hun hno => by
        refine hfree k ok hk hki ?_ hno
        by_cases hjk : j = k
        · subst hjk; exact hjun
        · rw [getD_set_ne true hjk] at hun; exact hun
      refine fOp_mono p (fun a' E' h3 => ih (listed.setIfInBounds j true) a' E' hfree' (ready_mono hr (Ne.symm hji)) h3.1 ?_) h2
      rw [Array.setIfInBounds_comm _ _ hji]
      exact h3.2

theorem first_eff (hg : p.Good) {Q : Act → ι → Prop} {i : Nat} {oi : Oper} (hi : ops[i]? = some oi) (hsel : ∀ (j : Nat) (o : Oper) cs b, ops[j]? = some o → o.op ≠ .select cs b) :
    ∀ (fuel : Nat) (listed : Array Bool) (a : Act) (E : ι),
      (∀ j oj, ops[j]? = some oj → j ≠ i → listed.getD j true = false → (∀ e ∈ oj.after, Region.binds md e = true → e.on ≠ i) → oi.apart ops oj = true ∧ (p.val j = none → p.free i = true ∧ p.free j = true)) →
      i ∈ Region.ready md ops listed → Eff P ops p i oi a E →
      (∀ v E1, p.step i E v E1 → wpAnyF P md ops p Q fuel (listed.setIfInBounds i true) (a.put oi.dst v) E1) → wpAnyF P md ops p Q (fuel + 1) listed a E := by
  intro fuel
  induction fuel with
  | zero =>
    intro listed a E _ hr hy H
    refine ⟨fun h => (by rw [h] at hr; cases hr), fun j hj => ?_⟩
    by_cases hji : j = i
    · subst hji; exact hy.fOp p hi H
    · obtain ⟨v, E1, s⟩ := hg.some i E
      have := ready_mono hj hji
      rw [(H v E1 s).1] at this; cases this
  | succ fuel ih =>
    intro listed a E hfree hr hy H
    refine ⟨fun h => (by rw [h] at hr; cases hr), fun j hj => ?_⟩
    by_cases hji : j = i
    · subst hji; exact hy.fOp p hi H
    · obtain ⟨hjun, oj, hoj, _⟩ := mem_ready.1 hj
      have hnot := not_ready_of hj hoj (mem_ready.1 hr).1
      obtain ⟨hap, hpair⟩ := hfree j oj hoj hji hjun hnot
      have h2 := fOp_put_eff p hg hji hoj hap (fun cs b => hsel i oi cs b hi) (fun cs b => hsel j oj cs b hoj) hpair hy (fun v E1 s => (H v E1 s).2 j (ready_mono hj hji))
      have hfree' : ∀ k ok, ops[k]? = some ok → k ≠ i → (listed.setIfInBounds j true).getD k true = false →
          (∀ e ∈ ok.after, Region.binds md e = true → e.on ≠ i) → oi.apart ops ok = true ∧ (p.val k = none → p.free i = true ∧ p.free k = true) := fun k ok hk hki hun hno => by
        refine hfree k ok hk hki ?_ hno
        by_cases hjk : j = k
        · subst hjk; exact hjun
        · rw [getD_set_ne true hjk] at hun; exact hun
      refine fOp_mono p (fun a' E' h3 => ih (listed.setIfInBounds j true) a' E' hfree' (ready_mono hr (Ne.symm hji)) h3.1 fun v E1 s => ?_) h2
      rw [Array.setIfInBounds_comm _ _ hji]
      exact h3.2 v E1 s

/-! ### The text's order. -/
def exB (md : Region.Mode) (ops : Array Oper) (eff free : Nat → Bool) (listed : Array Bool) (i : Nat) : Bool :=
  !eff i || (List.range ops.size).all fun j => j == i || listed.getD j true || !eff j || (free i && free j) || (match ops[j]? with | some oj => oj.after.any (fun e => Region.binds md e && e.on == i) | none => true)
def lexF (md : Region.Mode) (ops : Array Oper) (eff free : Nat → Bool) : Nat → Nat → Array Bool → Bool
  | 0, _, listed => (Region.ready md ops listed).isEmpty
  | n + 1, k, listed => (Region.ready md ops listed).contains k && Region.free md ops listed k && exB md ops eff free listed k && lexF md ops eff free n (k + 1) (listed.setIfInBounds k true)
def lexFB (md : Region.Mode) (ops : Array Oper) (eff free : Nat → Bool) : Bool := Region.noSelect ops && lexF md ops eff free ops.size 0 (Array.replicate ops.size false)
/-- The walk in the text's order, n operations from number k on. -/
def wpFam (P : Program) (ops : Array Oper) (p : Plan ι) (Q : Act → ι → Prop) : Nat → Nat → Act → ι → Prop
  | 0, _, a, E => Q a E
  | n + 1, k, a, E => fOp P ops p k (wpFam P ops p Q n (k + 1)) a E

theorem exB_spec {eff free : Nat → Bool} {listed : Array Bool} {i : Nat} (h : exB md ops eff free listed i = true) (hi : eff i = true) {j : Nat} {oj : Oper} (hj : ops[j]? = some oj) (hne : j ≠ i) (hun : listed.getD j true = false)
    (hno : ∀ e ∈ oj.after, Region.binds md e = true → e.on ≠ i) (hej : eff j = true) : free i = true ∧ free j = true := by
  unfold exB at h
  rw [hi] at h
  simp only [Bool.not_true, Bool.false_or, List.all_eq_true, List.mem_range] at h
  have hlt : j < ops.size := (Array.getElem?_eq_some_iff.1 hj).1
  have h' := h j hlt
  have hni : (j == i) = false := by simpa using hne
  rw [hni, hun, hej, hj] at h'
  simp only [Bool.not_true, Bool.false_or, Bool.or_eq_true, Bool.and_eq_true] at h'
  rcases h' with h' | h'
  · exact h'
  · obtain ⟨e, he, hb⟩ := Array.any_eq_true'.1 h'
    simp only [Bool.and_eq_true, beq_iff_eq] at hb
    exact absurd hb.2 (hno e he hb.1)

theorem wpAnyF_lex (hg : p.Good) {Q : Act → ι → Prop} (hs : Region.noSelect ops = true) : ∀ (n k : Nat) (listed : Array Bool) (a : Act) (E : ι),
    lexF md ops p.eff p.free n k listed = true → wpFam P ops p Q n k a E → wpAnyF P md ops p Q n listed a E
  | 0, _, _, _, _, hB, h => ⟨by simpa [lexF] using hB, h⟩
  | n + 1, k, listed, a, E, hB, h => by
    simp only [lexF, Bool.and_eq_true] at hB
    obtain ⟨⟨⟨hr, hf⟩, hx⟩, hB'⟩ := hB
    have hr' : k ∈ Region.ready md ops listed := by simpa using hr
    obtain ⟨_, o, ho, _⟩ := mem_ready.1 hr'
    have hfree := Region.free_spec ho hf
    have goOn := fun a' E' (hw : wpFam P ops p Q n (k + 1) a' E') => wpAnyF_lex hg hs n (k + 1) (listed.setIfInBounds k true) a' E' hB' hw
    unfold wpFam fOp at h
    simp only [ho] at h
    by_cases hw : Region.wanted o (yielded ops a.tmps) = true
    · simp only [hw, if_true] at h
      cases hv : p.val k with
      | some v =>
        simp only [hv] at h
        exact first_one p ho (Region.noSelect_spec hs) n listed a E hfree hr' (.inl ⟨hw, hv, h.1⟩) (goOn _ _ h.2)
      | none =>
        simp only [hv] at h
        have hek : p.eff k = true := by
          unfold Plan.val at hv
          by_cases e : p.eff k = true
          · exact e
          · simp [e] at hv
        refine first_eff p hg ho (Region.noSelect_spec hs) n listed a E (fun j oj hj hne hun hno => ⟨hfree j oj hj hne hun hno, fun hvj => ?_⟩) hr' ⟨hw, hv, h.1⟩ (fun v E1 s => goOn _ _ (h.2 v E1 s))
        have hej : p.eff j = true := by
          unfold Plan.val at hvj
          by_cases e : p.eff j = true
          · exact e
          · simp [e] at hvj
        exact exB_spec hx hek hj hne hun hno hej
    · have hw' : Region.wanted o (yielded ops a.tmps) = false := by simpa using hw
      simp only [hw', Bool.false_eq_true, if_false] at h
      exact first_one p ho (Region.noSelect_spec hs) n listed a E hfree hr' (.inr ⟨hw', rfl⟩) (goOn _ _ h)

/-- A REGION THAT DRAWS ITS ORDER: one walk in the text's order. -/
theorem wp_region_fam {id : Nat} {Q : Exit → Act → World → Prop} {a : Act} {w : World} {l : List Oper} (hm : P.follows .mixedOrders = true) (hg : p.Good) (hB : lexFB .any l.toArray p.eff p.free = true) (E : ι) (hC : p.C E { w with drawn := w.drawn + 1 })
    (h : wpFam P l.toArray p (fun a' E' => ∀ w', p.C E' w' → Q .normal a' w') l.length 0 a E) : (Code.region id l.toArray true).wp P Q a w := by
  simp only [lexFB, Bool.and_eq_true] at hB
  refine wp_region_any hm (wpAny_of_F p (Q := fun a' E' => ∀ w', p.C E' w' → Q .normal a' w') (fun _ _ w' hw' h => h w' hw') _ _ _ E _ hC ?_)
  have hsz : l.toArray.size = l.length := by simp
  have hlx := hB.2
  rw [hsz] at hlx
  have := wpAnyF_lex (md := .any) p hg hB.1 l.length 0 (Array.replicate l.length false) a E hlx h
  simpa using this
end
end Fam
end Go
