/-
  Timers taken out of a wheel: without.
-/
import Derived.Test.YtfblognifnnadaaWhDel
import Derived.Test.YtfblognifnnadaaWhRChk
import Derived.Laws.Cover3
import Derived.Test.YtfblognifnnadaaIn
import Derived.Deep.DeepMust
set_option linter.unusedVariables false
set_option linter.unusedSimpArgs false
namespace Go.Proofs.Wh
open Go Go.RowKit
theorem rowW_set (now : Nat) (sv : List Value) (i : Nat) (v : Value) : (rowW now sv).setIfInBounds (1 + i) v = rowW now (sv.set i v) := by
  unfold rowW
  rw [List.setIfInBounds_toArray, Nat.add_comm, List.set_cons_succ]
theorem rowW_size {now : Nat} {sv : List Value} (h : sv.length = 8) : (rowW now sv).size = 9 := by unfold rowW; simp only [List.size_toArray, List.length_cons]; rw [h]
/-- Slots of which the first i are done. -/
def mixS (f : List Tm → List Tm) (S : List (List Tm)) (i : Nat) : List (List Tm) := (S.take i).map f ++ S.drop i
theorem mixS_zero (f : List Tm → List Tm) (S : List (List Tm)) : mixS f S 0 = S := by simp [mixS]
theorem mixS_all (f : List Tm → List Tm) {S : List (List Tm)} {i : Nat} (h : S.length ≤ i) : mixS f S i = S.map f := by simp [mixS, List.take_of_length_le h, List.drop_eq_nil_of_le h]
theorem mixS_at (f : List Tm → List Tm) {S : List (List Tm)} {i : Nat} {l : List Tm} (h : S[i]? = some l) : (mixS f S i)[i]? = some l := by
  have hl := (List.getElem?_eq_some_iff.1 h).1
  unfold mixS
  rw [List.getElem?_append_right (by simp; omega)]
  simp only [List.length_map, List.length_take, Nat.min_eq_left (Nat.le_of_lt hl), Nat.sub_self, List.getElem?_drop, Nat.add_zero]
  exact h
theorem mixS_succ (f : List Tm → List Tm) {S : List (List Tm)} {i : Nat} {l : List Tm} (h : S[i]? = some l) : mixS f S (i + 1) = (mixS f S i).set i (f l) := by
  obtain ⟨h1, h2⟩ := List.getElem?_eq_some_iff.1 h
  have e : S.drop i = l :: S.drop (i + 1) := by rw [List.drop_eq_getElem_cons h1, h2]
  unfold mixS
  rw [List.take_succ_eq_append_getElem h1, List.map_append, h2, List.set_append_right _ _ (by simp; omega), e]
  simp [Nat.min_eq_left (Nat.le_of_lt h1)]
theorem perm_out (b4 b2 : Nat) (z4 z2 : Array Value) (x : Nat × Array Value) (Os : List (List (Nat × Array Value))) (L : List (Nat × Array Value)) : (x :: (b4, z4) :: (b2, z2) :: (Os.flatten ++ L)).Perm ((b4, z4) :: (b2, z2) :: ((Os ++ [[x]]).flatten ++ L)) := by
  rw [List.flatten_append]
  simp only [List.flatten_cons, List.flatten_nil, List.append_nil, List.append_assoc, List.singleton_append]
  exact (List.perm_middle (l₁ := (b4, z4) :: (b2, z2) :: Os.flatten) (a := x) (l₂ := L)).symm
theorem InW.set {R : List (Nat × Value × List Value)} {sv : List Value} {S : List (List Tm)} (h : InW R sv S) (i : Nat) (v : Value) (l : List Tm) : InW ((2, v, cellsT l) :: R) (sv.set i v) (S.set i l) := by
  refine ⟨by rw [List.length_set]; exact h.1, by rw [List.length_set]; exact h.2.1, fun j v' l' h1 h2 => ?_⟩
  rw [List.getElem?_set] at h1 h2
  by_cases hij : i = j
  · subst hij
    rw [if_pos rfl] at h1 h2
    split at h1
    · split at h2
      · cases h1; cases h2; exact List.mem_cons_self ..
      · cases h2
    · cases h1
  · rw [if_neg hij] at h1 h2
    exact List.mem_cons_of_mem _ (h.2.2 j v' l' h1 h2)
/-- The slots' slices are the call's own: slot j's row is Os[j]; from slot i on they are read still. -/
structure OwnW (R : List (Nat × Value × List Value)) (sv : List Value) (S : List (List Tm)) (F : List Tm → List Tm) (i : Nat) (Os : List (List (Nat × Array Value))) : Prop where
  lv : sv.length = 8
  lS : S.length = 8
  lO : Os.length = i
  own : ∀ (j : Nat) (v : Value) (l : List Tm) (O : List (Nat × Array Value)), sv[j]? = some v → S[j]? = some l → Os[j]? = some O → OwnL 2 v (cellsT (F l)) O
  rest : ∀ (j : Nat) (v : Value) (l : List Tm), i ≤ j → sv[j]? = some v → S[j]? = some l → (2, v, cellsT l) ∈ R
theorem OwnW.start {R : List (Nat × Value × List Value)} {sv : List Value} {S : List (List Tm)} (F : List Tm → List Tm) (h : InW R sv S) : OwnW R sv S F 0 [] :=
  ⟨h.1, h.2.1, rfl, fun j v l O _ _ h => by simp at h, fun j v l _ h1 h2 => h.2.2 j v l h1 h2⟩
theorem OwnW.step {R : List (Nat × Value × List Value)} {sv : List Value} {S : List (List Tm)} {F : List Tm → List Tm} {i : Nat} {Os : List (List (Nat × Array Value))} (h : OwnW R sv S F i Os) {l : List Tm} (hl : S[i]? = some l) {v : Value} {O : List (Nat × Array Value)} (hO : OwnL 2 v (cellsT (F l)) O) (hi : i < 8) : OwnW R (sv.set i v) S F (i + 1) (Os ++ [O]) := by
  refine ⟨by rw [List.length_set]; exact h.lv, h.lS, by rw [List.length_append, h.lO]; rfl, fun j v' l' O' h1 h2 h3 => ?_, fun j v' l' hj h1 h2 => ?_⟩
  · rw [List.getElem?_set] at h1
    by_cases hij : i = j
    · subst hij
      rw [if_pos rfl, if_pos (by rw [h.lv]; exact hi)] at h1
      rw [List.getElem?_append_right (by rw [h.lO]; exact Nat.le_refl _), h.lO, Nat.sub_self] at h3
      rw [hl] at h2
      cases h1; cases h2; cases h3
      exact hO
    · rw [if_neg hij] at h1
      have hj : j < Os.length := by
        have := (List.getElem?_eq_some_iff.1 h3).1
        rw [List.length_append, List.length_singleton, h.lO] at this
        rw [h.lO]; omega
      rw [List.getElem?_append_left hj] at h3
      exact h.own j v' l' O' h1 h2 h3
  · rw [List.getElem?_set, if_neg (by omega)] at h1
    exact h.rest j v' l' (by omega) h1 h2
/-- All given away. -/
theorem OwnW.yield {w0 w : World} {L : List (Nat × Array Value)} {R : List (Nat × Value × List Value)} {F : List Tm → List Tm} : ∀ {sv : List Value} {S : List (List Tm)} {Os : List (List (Nat × Array Value))} {A : List (Nat × Array Value)}, sv.length = Os.length → S.length = Os.length → (∀ (j : Nat) (v : Value) (l : List Tm) (O : List (Nat × Array Value)), sv[j]? = some v → S[j]? = some l → Os[j]? = some O → OwnL 2 v (cellsT (F l)) O) → Mem w0 w (A ++ Os.flatten ++ L) R →
    ∃ R', Mem w0 w (A ++ L) (R' ++ R) ∧ (∀ x ∈ R', FRb w0 x) ∧ ∀ (j : Nat) (v : Value) (l : List Tm), sv[j]? = some v → S[j]? = some l → (2, v, cellsT (F l)) ∈ R' := by
  intro sv
  induction sv generalizing R with
  | nil =>
    intro S Os A h1 h2 h3 hv
    have : Os = [] := List.length_eq_zero_iff.1 h1.symm
    subst this
    refine ⟨[], ?_, fun x hx => (List.not_mem_nil hx).elim, fun j v l hv => by simp at hv⟩
    simpa using hv
  | cons v sv ih =>
    intro S Os A h1 h2 h3 hv
    cases Os with
    | nil => simp at h1
    | cons O Os =>
      cases S with
      | nil => simp at h2
      | cons l S =>
        have hO := h3 0 v l O rfl rfl rfl
        have hv2 : Mem w0 w (A ++ O ++ (Os.flatten ++ L)) R := by
          rw [List.flatten_cons] at hv
          simpa [List.append_assoc] using hv
        have hf := hO.fr hv2
        have hv3 := hO.yield hv2
        rw [← List.append_assoc] at hv3
        obtain ⟨R', g1, g2, g3⟩ := ih (S := S) (Os := Os) (A := A) (by simpa using h1) (by simpa using h2) (fun j v' l' O' k1 k2 k3 => h3 (j + 1) v' l' O' (by simpa using k1) (by simpa using k2) (by simpa using k3)) hv3
        refine ⟨R' ++ [(2, v, cellsT (F l))], by simpa [List.append_assoc] using g1, fun x hx => ?_, fun j v' l' k1 k2 => ?_⟩
        · rcases List.mem_append.1 hx with hx | hx
          · exact g2 x hx
          · rw [List.mem_singleton.1 hx]; exact hf
        · cases j with
          | zero =>
            simp only [List.getElem?_cons_zero, Option.some.injEq] at k1 k2
            subst k1 k2
            exact List.mem_append_right _ (List.mem_singleton.2 rfl)
          | succ j => exact List.mem_append_left _ (g3 j v' l' (by simpa using k1) (by simpa using k2))
end Go.Proofs.Wh
namespace Go.Proofs.Ytfblognifnnadaa
open Go.Proofs.Wh Go.RowKit Go.Proofs
/-- A slice of the callee's own making: its row is named. -/
def OwnT (c : List Value) (w : World) (e : Ending) (w' : World) : Prop := ∃ b n cap z, e = .returned (.slice (some ⟨b, 0, none⟩) n cap) ∧ AppRow (.slice (some ⟨b, 0, none⟩) n cap) 2 c (b, z) ∧ New w w' ∧ w.heap.size ≤ b ∧ w'.rowD b = z ∧ w'.soft b = true
theorem TClone_isnil (a : Option Addr) (l c : Nat) (w : World) : (binOp .eql 23 (.slice a l c) (.slice none 0 0)).run Try.prog w = .ok (.bool a.isNone) w := by
  simp [binOp, Sem.run_bind, run_equal_slice_nil w 23 _ a l c Try.underlying23]
set_option maxRecDepth 100000 in
set_option maxHeartbeats 4000000 in
theorem TClone_nil (w : World) : Calls Try.prog 61 #[.slice none 0 0] w fun e w' => e = .returned (.slice none 0 0) ∧ w = w' := by
  have hnil := TClone_isnil
  go_enter Try.func61, Try.ntmps61
  go_wp2
  go_ret
  exact ⟨rfl, rfl⟩
set_option maxRecDepth 100000 in
set_option maxHeartbeats 4000000 in
theorem TClone_row (a : Addr) (n cap : Nat) (c : List Value) (w : World) (hr : Rd w 2 (.slice (some a) n cap) c) (h1 : ∀ x ∈ c, x.oneCell' = true) (hn : n ≤ 1000000) : Calls Try.prog 61 #[.slice (some a) n cap] w (OwnT c w) := by
  have hv := (Mem.nil w).old hr
  have hl : c.length = n * 2 := by
    obtain ⟨_, _, _, e, g, _⟩ := hr
    cases e; exact g
  have H1 := Lib.hid h1
  have HA1 : Hid ((([] : List Value).length + c.length) / 2 ≤ maxLen) := Lib.hid (by rw [hl]; simp only [List.length_nil]; unfold maxLen; omega)
  have HA2 : Hid ((([] : List Value).length + c.length) / 2 * 16 ≤ 140737488355328) := Lib.hid (by rw [hl]; simp only [List.length_nil]; omega)
  have hnil := TClone_isnil
  clear hl h1 hn hr
  go_enter Try.func61, Try.ntmps61
  go_wp2_with (first
    | ((with_reducible refine at_append (t := 23) ?_); replace hv := hv.madeAt ⟨rfl, made_alloc _ #[] 63⟩; refine wl_apph rfl rfl hv (Any.AppRow.zero _ 2) (.agg #[.int .u64 0, .int .i64 0]) 16 Try.underlying23 infoTmz rfl (by decide) rfl (hv.rd Mem.z) H1.out HA1.out HA2.out ?_; intro v3 w3 x3 hrow hv1; replace hv := hv1; clear hv1; obtain ⟨n3, c3, rfl, g3⟩ := id hrow; replace g3 := Lib.hid g3; replace hrow := Lib.hid hrow))
  go_ret
  have h2 := hrow.out
  rw [List.nil_append] at h2
  exact ⟨x3.1, n3, c3, x3.2, rfl, h2, hv.below, (hv.vars.rows x3 (List.mem_cons_self ..)).2.2, (hv.vars.rows x3 (List.mem_cons_self ..)).1, (hv.vars.rows x3 (List.mem_cons_self ..)).2.1⟩
set_option maxRecDepth 100000 in
set_option maxHeartbeats 4000000 in
theorem DeleteFunc_nil (p : Tm → Bool) (g : Nat) (cb : Array Value) (hE : Enters Try.prog g) (w : World) (hf : ∀ w1, Below w.heap.size w w1 → ∀ (y1 : Nat) (y2 : Int), Calls Try.prog g (#[.agg #[.int .u64 (y1 : Nat), .int .i64 y2]] ++ cb) w1 fun e w2 => e = .returned (.bool (p (y1, y2))) ∧ New w1 w2) :
    Calls Try.prog 60 #[.slice none 0 0, .func (.func g) #[] cb] w fun e w' => e = .returned (.slice none 0 0) ∧ New w w' := by
  have hv := Mem.nil w
  have kI : ∀ w1, Below w.heap.size w w1 → Calls Try.prog 104 #[.slice none 0 0, .func (.func g) #[] cb] w1 fun e w' => e = .returned (.int .i64 (-1)) ∧ New w1 w' := fun w1 hb => IndexFunc_any none 0 0 [] p g cb hE (by decide) w1 (Rd.nil _ _) (fun w2 h2 => hf w2 (Below.trans hb (h2.mono hb.size)))
  have KI := Lib.hid kI
  clear hE hf kI
  go_enter Try.func60, Try.ntmps60
  go_wp2_with (go_at_call 104; (with_reducible refine (KI.out _ hv.below).mono ?_); rintro e w1 ⟨rfl, hn1⟩; replace hv := hv.new hn1; clear hn1)
  go_ret
  exact ⟨rfl, hv.below⟩
set_option maxRecDepth 100000 in
set_option maxHeartbeats 4000000 in
theorem without_own (now : Nat) (sv : List Value) (S : List (List Tm)) (p : Tm → Bool) (g : Nat) (cb : Array Value) (hE : Enters Try.prog g) (hlen : ∀ l ∈ S, l.length ≤ 1000) (w0 w : World) (L : List (Nat × Array Value)) (R : List (Nat × Value × List Value)) (hv0 : Mem w0 w L R) (hi : InW R sv S) (hf : (∀ w1, Vars w0 w1 L → ∀ (y1 : Nat) (y2 : Int), Calls Try.prog g (#[.agg #[.int .u64 (y1 : Nat), .int .i64 y2]] ++ cb) w1 fun e w2 => e = .returned (.bool (p (y1, y2))) ∧ New w1 w2)) :
    Calls Try.prog 28 #[.agg (rowW now sv), .func (.func g) #[] cb] w fun e w' => ∃ sv' Os, e = .returned (.agg (rowW now sv')) ∧ Mem w0 w' (Os.flatten ++ L) R ∧ OwnW R sv' S (fun l => l.filter fun t => !p t) 8 Os := by
  have hv := hv0
  have HI0 := Lib.hid hi
  have HLE := Lib.hid hlen
  have HE := Lib.hid hE
  have HF := Lib.hid hf
  have HSZ := Lib.hid hi.2.1
  obtain ⟨F, hF⟩ : ∃ F, F = fun l : List Tm => l.filter fun t => !p t := ⟨_, rfl⟩
  rw [← hF]
  have HFF := Lib.hid hF
  clear hi hv0 hlen hE hf hF
  go_enter Try.func28, Try.ntmps28
  go_wp2_with (first
    | ((with_reducible refine at_box (T := 26) (dst := some 2) ?_); refine wl_newb rfl (rowW now sv) 26 (fun _ => rfl) ?_; intro b2 w2 hm2; replace hv := hv.madeAt hm2; clear hm2)
    | ((with_reducible refine at_alloc (T := 26) (dst := some 4) ?_); refine wl_newb rfl (rowW 0 (List.replicate 8 (.slice none 0 0))) 26 (fun _ => rfl) ?_; intro b4 w2 hm2; replace hv := hv.madeAt hm2; clear hm2))
  go_loopw [6] (fun iv wr => ∃ (i : Nat) (sv1 : List Value) (Os : List (List (Nat × Array Value))), i ≤ 8 ∧ iv = .int .i64 (i : Nat) ∧ Mem w0 wr ((b4, (rowW 0 (List.replicate 8 (.slice none 0 0)))) :: (b2, rowW now sv1) :: (Os.flatten ++ L)) R ∧ Hid (OwnW R sv1 S F i Os)) (fun iv _ => 8 - (intOf iv).toNat)
  case atStart => exact ⟨0, sv, [], Nat.zero_le _, rfl, by simpa using hv, Lib.hid (OwnW.start F HI0.out)⟩
  case round =>
    clear hv
    obtain ⟨i, sv1, Os, hi0, rfl, hv, HI⟩ := hrel
    by_cases hi : i < 8
    · have hki : (i : Int) < 8 := by omega
      have hsi : i < sv1.length := by rw [HI.out.lv]; exact hi
      have hSi : i < S.length := by rw [HSZ.out]; exact hi
      obtain ⟨l, hl⟩ : ∃ l, S[i] = l := ⟨_, rfl⟩
      have HSL : Hid (S[i]? = some l) := Lib.hid (by rw [List.getElem?_eq_getElem hSi, hl])
      obtain ⟨v, hvv⟩ : ∃ v, sv1[i] = v := ⟨_, rfl⟩
      have hm := HI.out.rest i v l (Nat.le_refl _) (by rw [List.getElem?_eq_getElem hsi, hvv]) HSL.out
      have hg := rowW_get (now := now) (List.getElem?_eq_getElem hsi)
      rw [hvv] at hg
      have hll := HLE.out S[i] (List.getElem_mem hSi)
      rw [hl] at hll
      obtain ⟨sa, sn, sc, rfl, hq1, hq2, hq3, hq4, hq5⟩ := id (hv.rd hm)
      have HL1 := Lib.hid hll
      have HG := Lib.hid hg
      have HSM := Lib.hid hm
      have HQ4 := Lib.hid hq4
      have HLN := Lib.hid (len_rdT (hv.rd hm))
      have HI9 : Hid (1 + i < (rowW now sv1).size) := Lib.hid (by rw [rowW_size HI.out.lv]; omega)
      have HK0 := Lib.hid hi
      clear hsi hSi hl hvv hm hg hll hi0 hq1 hq2 hq3 hq4 hq5 hi
      cases sa with
      | none =>
        obtain ⟨rfl, rfl⟩ := HQ4.out rfl
        have hl0 : l = [] := List.length_eq_zero_iff.1 HLN.out
        have HF0 : Hid (F l = []) := Lib.hid (by rw [HFF.out, hl0]; rfl)
        clear hl0
        go_wp2_with (first
          | ((with_reducible refine at_load (T := 23) ?_); refine wl_ldc rfl b2 (1 + i) rfl _ (hv.vars.row (by first | exact .head _ | exact .tail _ (.head _) | exact .tail _ (.tail _ (.head _)) | exact .tail _ (.tail _ (.tail _ (.head _))) | exact .tail _ (.tail _ (.tail _ (.tail _ (.head _)))) | exact .tail _ (.tail _ (.tail _ (.tail _ (.tail _ (.head _))))) | exact .tail _ (.tail _ (.tail _ (.tail _ (.tail _ (.tail _ (.head _)))))) | exact .tail _ (.tail _ (.tail _ (.tail _ (.tail _ (.tail _ (.tail _ (.head _))))))))) _ Try.underlying23 rfl (.slice none 0 0) HG.out ?_)
          | (go_at_call 61; (with_reducible refine (TClone_nil _).mono ?_); rintro e w1 ⟨rfl, rfl⟩)
          | (go_at_call 60; (with_reducible refine (DeleteFunc_nil p g cb HE.out _ (fun w1 hb => HF.out w1 ((hv.vars.keep (List.Sublist.trans (List.sublist_append_right Os.flatten L) (List.Sublist.trans (List.sublist_cons_self _ _) (List.sublist_cons_self _ _)))).new hb))).mono ?_); rintro e w1 ⟨rfl, hn1⟩; replace hv := hv.new hn1; clear hn1)
          | ((with_reducible refine at_store (T := 23) ?_); refine wl_stc rfl b2 (1 + i) rfl (.slice none 0 0) rfl (rowW now sv1) (hv.vars.row (by first | exact .head _ | exact .tail _ (.head _) | exact .tail _ (.tail _ (.head _)))) (hv.vars.sft (by first | exact .head _ | exact .tail _ (.head _) | exact .tail _ (.tail _ (.head _)))) (by kernel_rfl) rfl HI9.out ?_; intro w2 hw2; replace hv := hv.set 1 rfl hw2; clear hw2; simp only [List.set] at hv))
        have hin := HK0.out
        go_roundw
        case rel => exact ⟨i + 1, sv1.set i (.slice none 0 0), Os ++ [[]], by omega, by go_num, by rw [rowW_set] at hv; simpa using hv, Lib.hid (HI.out.step HSL.out (by rw [HF0.out]; exact OwnL.nil 2) HK0.out)⟩
        case measure => simp [intOf]; omega
      | some sa =>
        have HONE : Hid (∀ x ∈ cellsT l, x.oneCell' = true) := Lib.hid (fun x hx => by
          unfold cellsT at hx
          obtain ⟨y, _, hy⟩ := List.mem_flatMap.1 hx
          unfold encT at hy
          rcases List.mem_cons.1 hy with rfl | hy
          · rfl
          · rw [List.mem_singleton.1 hy]; rfl)
        have HSN : Hid (sn ≤ 1000000) := Lib.hid (by have := HLN.out; have := HL1.out; omega)
        clear HQ4
        go_wp2_with (first
          | ((with_reducible refine at_load (T := 23) ?_); refine wl_ldc rfl b2 (1 + i) rfl _ (hv.vars.row (by first | exact .head _ | exact .tail _ (.head _) | exact .tail _ (.tail _ (.head _)) | exact .tail _ (.tail _ (.tail _ (.head _))) | exact .tail _ (.tail _ (.tail _ (.tail _ (.head _)))) | exact .tail _ (.tail _ (.tail _ (.tail _ (.tail _ (.head _))))) | exact .tail _ (.tail _ (.tail _ (.tail _ (.tail _ (.tail _ (.head _)))))) | exact .tail _ (.tail _ (.tail _ (.tail _ (.tail _ (.tail _ (.tail _ (.head _))))))))) _ Try.underlying23 rfl (.slice (some sa) sn sc) HG.out ?_)
          | (go_at_call 61; (with_reducible refine (TClone_row sa sn sc (cellsT l) _ (hv.rd HSM.out) HONE.out HSN.out).mono ?_); rintro e w1 ⟨b, n3, c3, z3, rfl, hrow, hn1, hb1, hr1, hs1⟩; replace hv := hv.lay' (x := (b, z3)) hb1 hn1 hr1 hs1; replace hrow := Lib.hid hrow; clear hn1 hb1 hr1 hs1)
          | (go_at_call 60; (with_reducible refine (DeleteFunc_any b n3 c3 z3 l p g cb HE.out HL1.out w0 _ _ _ hv hrow.out (fun w1 h1 => HF.out w1 (h1.keep (List.Sublist.trans (List.sublist_append_right Os.flatten L) (List.Sublist.trans (List.sublist_cons_self _ _) (List.sublist_cons_self _ _)))))).mono ?_); rintro e w1 ⟨v5, z5, rfl, hrow5, hv5⟩; replace hv := hv5; have HR5 := Lib.hid hrow5; obtain ⟨n5, c5, e5, g5⟩ := id hrow5; subst e5; clear g5 hv5 hrow5)
          | ((with_reducible refine at_store (T := 23) ?_); refine wl_stc rfl b2 (1 + i) rfl (.slice (some ⟨b, 0, none⟩) n5 c5) rfl (rowW now sv1) (hv.vars.row (by first | exact .head _ | exact .tail _ (.head _) | exact .tail _ (.tail _ (.head _)))) (hv.vars.sft (by first | exact .head _ | exact .tail _ (.head _) | exact .tail _ (.tail _ (.head _)))) (by kernel_rfl) rfl HI9.out ?_; intro w2 hw2; replace hv := hv.set 2 rfl hw2; clear hw2; simp only [List.set] at hv))
        have hin := HK0.out
        go_roundw
        case rel => exact ⟨i + 1, sv1.set i _, Os ++ [[(b, z5)]], by omega, by go_num, by rw [rowW_set] at hv; simpa using hv.perm (perm_out b4 b2 _ _ (b, z5) Os L), Lib.hid (HI.out.step HSL.out (OwnL.row (by rw [HFF.out]; exact HR5.out)) HK0.out)⟩
        case measure => simp [intOf]; omega
    · have hki : ¬ (i : Int) < 8 := by omega
      obtain rfl : i = 8 := by omega
      have HONE : Hid ((rowW now sv1).all (·.oneCell') = true) := Lib.hid (by
        rw [Array.all_eq_true_iff_forall_mem]
        intro x hx
        unfold rowW at hx
        rw [List.mem_toArray] at hx
        rcases List.mem_cons.1 hx with rfl | hx
        · rfl
        · obtain ⟨j, hj, rfl⟩ := List.mem_iff_getElem.1 hx
          have hj8 : j < 8 := by rw [HI.out.lv] at hj; exact hj
          have hjS : j < S.length := by rw [HI.out.lS]; exact hj8
          have hjO : j < Os.length := by rw [HI.out.lO]; exact hj8
          obtain ⟨_, _, _, e, _⟩ := (HI.out.own j _ _ _ (List.getElem?_eq_getElem hj) (List.getElem?_eq_getElem hjS) (List.getElem?_eq_getElem hjO)).slice
          rw [e]; rfl)
      clear hi hi0
      go_wp2_with (first
        | ((with_reducible refine at_load (T := 26) ?_); refine wl_ldv rfl b2 rfl _ (hv.vars.row (by first | exact .head _ | exact .tail _ (.head _) | exact .tail _ (.tail _ (.head _)) | exact .tail _ (.tail _ (.tail _ (.head _))) | exact .tail _ (.tail _ (.tail _ (.tail _ (.head _)))) | exact .tail _ (.tail _ (.tail _ (.tail _ (.tail _ (.head _))))) | exact .tail _ (.tail _ (.tail _ (.tail _ (.tail _ (.tail _ (.head _)))))) | exact .tail _ (.tail _ (.tail _ (.tail _ (.tail _ (.tail _ (.tail _ (.head _))))))))) 9 _ Try.underlying26 rfl infoWh (by decide) (rowW_size HI.out.1) ?_)
        | ((with_reducible refine at_store (T := 26) ?_); refine wl_stv rfl b4 rfl _ rfl _ (hv.vars.row (by first | exact .head _ | exact .tail _ (.head _) | exact .tail _ (.tail _ (.head _)) | exact .tail _ (.tail _ (.tail _ (.head _))) | exact .tail _ (.tail _ (.tail _ (.tail _ (.head _)))) | exact .tail _ (.tail _ (.tail _ (.tail _ (.tail _ (.head _))))) | exact .tail _ (.tail _ (.tail _ (.tail _ (.tail _ (.tail _ (.head _)))))) | exact .tail _ (.tail _ (.tail _ (.tail _ (.tail _ (.tail _ (.tail _ (.head _))))))))) (hv.vars.sft (by first | exact .head _ | exact .tail _ (.head _) | exact .tail _ (.tail _ (.head _)) | exact .tail _ (.tail _ (.tail _ (.head _))) | exact .tail _ (.tail _ (.tail _ (.tail _ (.head _)))) | exact .tail _ (.tail _ (.tail _ (.tail _ (.tail _ (.head _))))) | exact .tail _ (.tail _ (.tail _ (.tail _ (.tail _ (.tail _ (.head _)))))) | exact .tail _ (.tail _ (.tail _ (.tail _ (.tail _ (.tail _ (.tail _ (.head _))))))))) 9 infoWh (rowW_size HI.out.1) rfl HONE.out ?_; intro w2 hw2; (first | (replace hv := hv.set 0 rfl hw2) | (replace hv := hv.set 1 rfl hw2) | (replace hv := hv.set 2 rfl hw2) | (replace hv := hv.set 3 rfl hw2)); clear hw2; simp only [List.set] at hv))
      try simp only [Exit.inBlock, Exit.then]
      refine ret_cell1 (v := .agg (rowW now sv1)) rfl rfl (read_row _ b4 26 _ (hv.vars.row (List.Mem.head _)) 9 _ Try.underlying26 rfl infoWh (by decide) (rowW_size HI.out.lv)) rfl ⟨sv1, rfl, Os, hv.keep (List.Sublist.trans (List.sublist_cons_self _ _) (List.sublist_cons_self _ _)), ?_⟩
      exact HI.out
theorem without_any (now : Nat) (sv : List Value) (S : List (List Tm)) (p : Tm → Bool) (g : Nat) (cb : Array Value) (hE : Enters Try.prog g) (hlen : ∀ l ∈ S, l.length ≤ 1000) (w0 w : World) (L : List (Nat × Array Value)) (R : List (Nat × Value × List Value)) (hv0 : Mem w0 w L R) (hi : InW R sv S) (hf : (∀ w1, Vars w0 w1 L → ∀ (y1 : Nat) (y2 : Int), Calls Try.prog g (#[.agg #[.int .u64 (y1 : Nat), .int .i64 y2]] ++ cb) w1 fun e w2 => e = .returned (.bool (p (y1, y2))) ∧ New w1 w2)) :
    Calls Try.prog 28 #[.agg (rowW now sv), .func (.func g) #[] cb] w fun e w' => ∃ sv' R', e = .returned (.agg (rowW now sv')) ∧ Mem w0 w' L (R' ++ R) ∧ AllF w0 R' ∧ InW (R' ++ R) sv' (S.map fun l => l.filter fun t => !p t) := by
  refine (without_own now sv S p g cb hE hlen w0 w L R hv0 hi hf).mono ?_
  rintro e w' ⟨sv', Os, rfl, hm, ho⟩
  obtain ⟨R', g1, g2, g3⟩ := OwnW.yield (A := []) (by rw [ho.lv, ho.lO]) (by rw [ho.lS, ho.lO]) ho.own hm
  refine ⟨sv', R', rfl, g1, g2, ho.lv, by rw [List.length_map]; exact ho.lS, fun j v l h1 h2 => ?_⟩
  rw [List.getElem?_map] at h2
  cases h3 : S[j]? with
  | none => rw [h3] at h2; simp at h2
  | some l' =>
    rw [h3] at h2
    simp only [Option.map_some, Option.some.injEq] at h2
    subst h2
    exact List.mem_append_left _ (g3 j v l' h1 h3)
end Go.Proofs.Ytfblognifnnadaa
