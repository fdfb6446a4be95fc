/-
  How many timers there are; where a timer goes that comes last; putting it there.
-/
import Derived.Test.YtfblognifnnadaaWhNext
import Derived.Test.YtfblognifnnadaaWhOut
set_option linter.unusedVariables false
set_option linter.unusedSimpArgs false
namespace Go.Proofs.Wh
open Go Go.RowKit
/-- One slot's slice kept as the call's own, the others given away. -/
theorem OwnW.split {w0 w : World} {L : List (Nat × Array Value)} {R : List (Nat × Value × List Value)} {F : List Tm → List Tm} {sv : List Value} {S : List (List Tm)} {Os : List (List (Nat × Array Value))} (h : OwnW R sv S F 8 Os) (hv : Mem w0 w (Os.flatten ++ L) R) {j0 : Nat} (hj : j0 < 8) {l : List Tm} (hl : S[j0]? = some l) :
    ∃ O R' v, sv[j0]? = some v ∧ OwnL 2 v (cellsT (F l)) O ∧ Mem w0 w (O ++ L) (R' ++ R) ∧ AllF w0 R' ∧ ∀ (j : Nat) (v' : Value) (l' : List Tm), j ≠ j0 → sv[j]? = some v' → S[j]? = some l' → (2, v', cellsT (F l')) ∈ R' := by
  have hjv : j0 < sv.length := by rw [h.lv]; exact hj
  have hjO : j0 < Os.length := by rw [h.lO]; exact hj
  have eO : Os = Os.take j0 ++ Os[j0] :: Os.drop (j0 + 1) := by rw [List.getElem_cons_drop, List.take_append_drop]
  have eF : Os.flatten = (Os.take j0).flatten ++ (Os[j0] ++ (Os.drop (j0 + 1)).flatten) := by
    have := congrArg List.flatten eO
    rw [List.flatten_append, List.flatten_cons] at this
    exact this
  have hO : OwnL 2 sv[j0] (cellsT (F l)) Os[j0] := h.own j0 _ _ _ (List.getElem?_eq_getElem hjv) hl (List.getElem?_eq_getElem hjO)
  have hv1 : Mem w0 w ([] ++ (Os.take j0).flatten ++ (Os[j0] ++ ((Os.drop (j0 + 1)).flatten ++ L))) R := by
    rw [eF] at hv
    simpa [List.append_assoc] using hv
  obtain ⟨R1, g1, g2, g3⟩ := OwnW.yield (F := F) (sv := sv.take j0) (S := S.take j0) (by rw [List.length_take, List.length_take, h.lv, h.lO]) (by rw [List.length_take, List.length_take, h.lS, h.lO]) (fun j v' l' O' k1 k2 k3 => by
    rw [List.getElem?_take] at k1 k2 k3
    split at k1
    · rename_i hlt
      rw [if_pos hlt] at k2 k3
      exact h.own j v' l' O' k1 k2 k3
    · cases k1) hv1
  have hv2 : Mem w0 w (Os[j0] ++ (Os.drop (j0 + 1)).flatten ++ L) (R1 ++ R) := by simpa [List.append_assoc] using g1
  obtain ⟨R2, m1, m2, m3⟩ := OwnW.yield (F := F) (sv := sv.drop (j0 + 1)) (S := S.drop (j0 + 1)) (by rw [List.length_drop, List.length_drop, h.lv, h.lO]) (by rw [List.length_drop, List.length_drop, h.lS, h.lO]) (fun j v' l' O' k1 k2 k3 => by
    rw [List.getElem?_drop] at k1 k2 k3
    exact h.own _ v' l' O' k1 k2 k3) hv2
  refine ⟨Os[j0], R2 ++ R1, sv[j0], List.getElem?_eq_getElem hjv, hO, by rw [List.append_assoc]; exact m1, fun x hx => ?_, fun j v' l' hne k1 k2 => ?_⟩
  · rcases List.mem_append.1 hx with hx | hx
    · exact m2 x hx
    · exact g2 x hx
  · rcases Nat.lt_or_gt_of_ne hne with hlt | hgt
    · exact List.mem_append_right _ (g3 j v' l' (by rw [List.getElem?_take, if_pos hlt]; exact k1) (by rw [List.getElem?_take, if_pos hlt]; exact k2))
    · have e : j0 + 1 + (j - (j0 + 1)) = j := by omega
      exact List.mem_append_left _ (m3 (j - (j0 + 1)) v' l' (by rw [List.getElem?_drop, e]; exact k1) (by rw [List.getElem?_drop, e]; exact k2))
end Go.Proofs.Wh
namespace Go.Proofs.Ytfblognifnnadaa
open Go.Proofs.Wh Go.RowKit Go.Shelf Go.Proofs
attribute [local go_sem] Oper.semAt_some
set_option maxRecDepth 100000 in
set_option maxHeartbeats 4000000 in
theorem count_ok (now : Nat) (sv : List Value) (S : List (List Tm)) (hlen : ∀ l ∈ S, l.length ≤ 1000) (w : World) (R : List (Nat × Value × List Value)) (hr0 : ∀ x ∈ R, Rd w x.1 x.2.1 x.2.2) (hi : InW R sv S) (hl8 : S.flatten.length ≤ 8000) :
    CallsIn Fence.wide 9 Try.prog 50 #[.agg (rowW now sv)] w fun e w' => e = .returned (.int .i64 (S.flatten.length : Nat)) ∧ New w w' := by
  have hv := Mem.all hr0
  have HR0 := Lib.hid hr0
  have HI := Lib.hid hi
  have HLE := Lib.hid hlen
  have HSZ : Hid ((rowW now sv).size = 9) := Lib.hid (by unfold rowW; simp only [List.size_toArray, List.length_cons]; rw [hi.1])
  have HL8 := Lib.hid hl8
  clear hi hr0 hlen hl8
  refine callsIn_of_wp_marks Try.func50 rfl trivial ?_ rfl
  simp only [Try.ntmps50, List.size_toArray, List.length_cons, List.length_nil, Nat.reduceAdd, Nat.reduceSub, Array.replicate_succ, Array.replicate_zero, List.push_toArray, List.append_toArray, List.nil_append, List.cons_append]
  gi_wp2_with (first
    | ((with_reducible refine ati_box (T := 26) (dst := some 1) ?_); refine wi_newb (fun _ => trivial) (fun _ h => by cases h) rfl (rowW now sv) 26 (fun _ => rfl) ?_; intro b1 w2 hm2; replace hv := hv.madeAt hm2; clear hm2)
    | ((with_reducible refine ati_alloc (T := 3) (dst := some 3) ?_); refine wi_newb (fun _ => trivial) (fun _ h => by cases h) rfl #[.int .i64 0] 3 (fun _ => rfl) ?_; intro b3 w2 hm2; replace hv := hv.madeAt hm2; clear hm2)
    | ((with_reducible refine ati_store (T := 3) ?_); refine wi_stc (fun _ => trivial) rfl b3 0 rfl (.int .i64 0) rfl _ (hv.vars.row (by first | exact .head _ | exact .tail _ (.head _) | exact .tail _ (.tail _ (.head _)) | exact .tail _ (.tail _ (.tail _ (.head _))) | exact .tail _ (.tail _ (.tail _ (.tail _ (.head _)))) | exact .tail _ (.tail _ (.tail _ (.tail _ (.tail _ (.head _))))) | exact .tail _ (.tail _ (.tail _ (.tail _ (.tail _ (.tail _ (.head _)))))) | exact .tail _ (.tail _ (.tail _ (.tail _ (.tail _ (.tail _ (.tail _ (.head _))))))))) (hv.vars.sft (by first | exact .head _ | exact .tail _ (.head _) | exact .tail _ (.tail _ (.head _)) | exact .tail _ (.tail _ (.tail _ (.head _))) | exact .tail _ (.tail _ (.tail _ (.tail _ (.head _)))) | exact .tail _ (.tail _ (.tail _ (.tail _ (.tail _ (.head _))))) | exact .tail _ (.tail _ (.tail _ (.tail _ (.tail _ (.tail _ (.head _)))))) | exact .tail _ (.tail _ (.tail _ (.tail _ (.tail _ (.tail _ (.tail _ (.head _))))))))) (by kernel_rfl) rfl (by first | decide | exact Nat.succ_pos _) ?_; intro w2 hw2; (first | (replace hv := hv.set 0 rfl hw2) | (replace hv := hv.set 1 rfl hw2) | (replace hv := hv.set 2 rfl hw2) | (replace hv := hv.set 3 rfl hw2) | (replace hv := hv.set 4 rfl hw2) | (replace hv := hv.set 5 rfl hw2)); simp only [List.set, List.setIfInBounds_toArray, List.set_cons_zero, List.set_cons_succ] at hv; clear hw2)
    | (refine ⟨trivial, ?_⟩; gi_at_call 25; refine (all_in _ _ _).mono ?_; rintro e w' ⟨bp, rfl, hmp⟩; replace hv := hv.madeAt hmp; clear hmp))
  · skip
    have LP : Hid (bp < w'.heap.size) := Lib.hid (hv.vars.lt (b := bp) (by first | exact .head _ | exact .tail _ (.head _) | exact .tail _ (.tail _ (.head _)) | exact .tail _ (.tail _ (.tail _ (.head _))) | exact .tail _ (.tail _ (.tail _ (.tail _ (.head _)))) | exact .tail _ (.tail _ (.tail _ (.tail _ (.tail _ (.head _))))) | exact .tail _ (.tail _ (.tail _ (.tail _ (.tail _ (.tail _ (.head _)))))) | exact .tail _ (.tail _ (.tail _ (.tail _ (.tail _ (.tail _ (.tail _ (.head _)))))))))
    have L1 : Hid (b1 < w'.heap.size) := Lib.hid (hv.vars.lt (b := b1) (by first | exact .head _ | exact .tail _ (.head _) | exact .tail _ (.tail _ (.head _)) | exact .tail _ (.tail _ (.tail _ (.head _))) | exact .tail _ (.tail _ (.tail _ (.tail _ (.head _)))) | exact .tail _ (.tail _ (.tail _ (.tail _ (.tail _ (.head _))))) | exact .tail _ (.tail _ (.tail _ (.tail _ (.tail _ (.tail _ (.head _)))))) | exact .tail _ (.tail _ (.tail _ (.tail _ (.tail _ (.tail _ (.tail _ (.head _)))))))))
    have LW : Hid (w.heap.size ≤ w'.heap.size) := Lib.hid hv.below.size
    refine wpIn_rangeFunc_ownH (by rfl) (by decide) (gf := 54) (lb := #[.pointer (some ⟨bp, 0, none⟩)]) rfl trivial (enters_of Try.func54 (by kernel_rfl) rfl)
      (all_stops 8 (by decide) bp b1 w.heap.size sv S HI.out.1 HI.out.2.1 HLE.out _ (itS_of hv HR0.out (by first | exact .head _ | exact .tail _ (.head _) | exact .tail _ (.tail _ (.head _)) | exact .tail _ (.tail _ (.tail _ (.head _))) | exact .tail _ (.tail _ (.tail _ (.tail _ (.head _)))) | exact .tail _ (.tail _ (.tail _ (.tail _ (.tail _ (.head _))))) | exact .tail _ (.tail _ (.tail _ (.tail _ (.tail _ (.tail _ (.head _)))))) | exact .tail _ (.tail _ (.tail _ (.tail _ (.tail _ (.tail _ (.tail _ (.head _)))))))) (by first | exact .head _ | exact .tail _ (.head _) | exact .tail _ (.tail _ (.head _)) | exact .tail _ (.tail _ (.tail _ (.head _))) | exact .tail _ (.tail _ (.tail _ (.tail _ (.head _)))) | exact .tail _ (.tail _ (.tail _ (.tail _ (.tail _ (.head _))))) | exact .tail _ (.tail _ (.tail _ (.tail _ (.tail _ (.tail _ (.head _)))))) | exact .tail _ (.tail _ (.tail _ (.tail _ (.tail _ (.tail _ (.tail _ (.head _)))))))) HI.out)) WhK.trans (WhK.turn LW.out LP.out L1.out) (Below.refl _ _) (fun _ => rfl)
      (fun pre W => Mem w W [(bp, #[.pointer (some ⟨b1, 0, none⟩)]), (b3, #[.int .i64 (pre.length : Nat)]), (b1, (rowW now sv))] R)
      (fun _ _ _ => False)
      (fun s A B row h hg hr => h.turn hg (fun r e => ⟨Nat.le_trans LW.out (hr r e).1, (hr r e).2⟩))
      (fun _ _ _ _ _ h _ _ => h)
      hv
      (fun x a' W => a' = { tmps := #[.agg (rowW now sv), .pointer (some ⟨b1, 0, none⟩), .int .i64 0, .pointer (some ⟨b3, 0, none⟩), .func (.func 54) #[] #[.pointer (some ⟨bp, 0, none⟩)], .agg #[.int .u64 ((S.flatten[x.1]).1 : Nat), .int .i64 (S.flatten[x.1]).2], undef, undef, undef], defers := [] })
      (fun x a' s A B row h hg hr => h) ?assign ?body ?done ?stop
    case assign =>
      rintro l0 pre x W K hv hK
      simp only [encF, zip_one, List.setIfInBounds_toArray, List.set_cons_succ, List.set_cons_zero]
      gi_wp2
      exact hK _ _ (KeepsFrom.refl _ _) (WhK.refl _ _ _ _) hv rfl
    case body =>
      rintro l0 pre x a' W hl0 hr0 hv rfl hlt
      have q1 : IntKind.i64.wrap ((pre.length : Int) + 1) = ((pre.length + 1 : Nat) : Int) := by
        have := HL8.out
        rw [IntWalk.i64_in _ (by omega)]; omega
      have hv9 := hv
      clear hlt
      gi_wp2_with (first
        | ((with_reducible refine ati_load (T := 3) ?_); refine wi_ldc (fun _ => trivial) rfl b3 0 rfl _ (hv.vars.row (by first | exact .head _ | exact .tail _ (.head _) | exact .tail _ (.tail _ (.head _)) | exact .tail _ (.tail _ (.tail _ (.head _))) | exact .tail _ (.tail _ (.tail _ (.tail _ (.head _)))) | exact .tail _ (.tail _ (.tail _ (.tail _ (.tail _ (.head _))))) | exact .tail _ (.tail _ (.tail _ (.tail _ (.tail _ (.tail _ (.head _)))))) | exact .tail _ (.tail _ (.tail _ (.tail _ (.tail _ (.tail _ (.tail _ (.head _))))))))) _ Try.underlying3 rfl (.int .i64 (pre.length : Nat)) rfl ?_)
        | ((with_reducible refine ati_store (T := 3) ?_); refine wi_stc (fun _ => trivial) rfl b3 0 rfl (.int .i64 ((pre.length + 1 : Nat) : Int)) rfl _ (hv.vars.row (by first | exact .head _ | exact .tail _ (.head _) | exact .tail _ (.tail _ (.head _)) | exact .tail _ (.tail _ (.tail _ (.head _))) | exact .tail _ (.tail _ (.tail _ (.tail _ (.head _)))) | exact .tail _ (.tail _ (.tail _ (.tail _ (.tail _ (.head _))))) | exact .tail _ (.tail _ (.tail _ (.tail _ (.tail _ (.tail _ (.head _)))))) | exact .tail _ (.tail _ (.tail _ (.tail _ (.tail _ (.tail _ (.tail _ (.head _))))))))) (hv.vars.sft (by first | exact .head _ | exact .tail _ (.head _) | exact .tail _ (.tail _ (.head _)) | exact .tail _ (.tail _ (.tail _ (.head _))) | exact .tail _ (.tail _ (.tail _ (.tail _ (.head _)))) | exact .tail _ (.tail _ (.tail _ (.tail _ (.tail _ (.head _))))) | exact .tail _ (.tail _ (.tail _ (.tail _ (.tail _ (.tail _ (.head _)))))) | exact .tail _ (.tail _ (.tail _ (.tail _ (.tail _ (.tail _ (.tail _ (.head _))))))))) (by kernel_rfl) rfl (by first | decide | exact Nat.succ_pos _) ?_; intro w2 hw2; have hk9 := hw2.keeps (hv.vars.sft (b := b3) (by first | exact .head _ | exact .tail _ (.head _) | exact .tail _ (.tail _ (.head _)) | exact .tail _ (.tail _ (.tail _ (.head _))) | exact .tail _ (.tail _ (.tail _ (.tail _ (.head _)))) | exact .tail _ (.tail _ (.tail _ (.tail _ (.tail _ (.head _))))) | exact .tail _ (.tail _ (.tail _ (.tail _ (.tail _ (.tail _ (.head _)))))) | exact .tail _ (.tail _ (.tail _ (.tail _ (.tail _ (.tail _ (.tail _ (.head _))))))))) w'.heap.size; (first | (replace hv := hv.set 0 rfl hw2) | (replace hv := hv.set 1 rfl hw2) | (replace hv := hv.set 2 rfl hw2) | (replace hv := hv.set 3 rfl hw2) | (replace hv := hv.set 4 rfl hw2) | (replace hv := hv.set 5 rfl hw2)); simp only [List.set, List.setIfInBounds_toArray, List.set_cons_zero, List.set_cons_succ] at hv; clear hw2))
      exact ⟨hk9, whK_of hv9 hv hk9.size (by first | exact .head _ | exact .tail _ (.head _) | exact .tail _ (.tail _ (.head _)) | exact .tail _ (.tail _ (.tail _ (.head _))) | exact .tail _ (.tail _ (.tail _ (.tail _ (.head _)))) | exact .tail _ (.tail _ (.tail _ (.tail _ (.tail _ (.head _))))) | exact .tail _ (.tail _ (.tail _ (.tail _ (.tail _ (.tail _ (.head _)))))) | exact .tail _ (.tail _ (.tail _ (.tail _ (.tail _ (.tail _ (.tail _ (.head _)))))))) (by first | exact .head _ | exact .tail _ (.head _) | exact .tail _ (.tail _ (.head _)) | exact .tail _ (.tail _ (.tail _ (.head _))) | exact .tail _ (.tail _ (.tail _ (.tail _ (.head _)))) | exact .tail _ (.tail _ (.tail _ (.tail _ (.tail _ (.head _))))) | exact .tail _ (.tail _ (.tail _ (.tail _ (.tail _ (.tail _ (.head _)))))) | exact .tail _ (.tail _ (.tail _ (.tail _ (.tail _ (.tail _ (.tail _ (.head _)))))))) (by first | exact .head _ | exact .tail _ (.head _) | exact .tail _ (.tail _ (.head _)) | exact .tail _ (.tail _ (.tail _ (.head _))) | exact .tail _ (.tail _ (.tail _ (.tail _ (.head _)))) | exact .tail _ (.tail _ (.tail _ (.tail _ (.tail _ (.head _))))) | exact .tail _ (.tail _ (.tail _ (.tail _ (.tail _ (.tail _ (.head _)))))) | exact .tail _ (.tail _ (.tail _ (.tail _ (.tail _ (.tail _ (.tail _ (.head _)))))))) (by first | exact .head _ | exact .tail _ (.head _) | exact .tail _ (.tail _ (.head _)) | exact .tail _ (.tail _ (.tail _ (.head _))) | exact .tail _ (.tail _ (.tail _ (.tail _ (.head _)))) | exact .tail _ (.tail _ (.tail _ (.tail _ (.tail _ (.head _))))) | exact .tail _ (.tail _ (.tail _ (.tail _ (.tail _ (.tail _ (.head _)))))) | exact .tail _ (.tail _ (.tail _ (.tail _ (.tail _ (.tail _ (.tail _ (.head _)))))))), by simp only [List.length_append, List.length_singleton]; exact hv⟩
    case done =>
      rintro D ys W hD rfl hv hK
      have HK := Lib.hid hK
      have LD : Hid (w.heap.size ≤ D) := Lib.hid (Nat.le_trans LW.out hD)
      simp only [List.length_finRange] at hv
      clear hK hD
      gi_wp2_with (first
        | ((with_reducible refine ati_load (T := 3) ?_); refine wi_ldc (fun _ => trivial) rfl b3 0 rfl _ (hv.vars.row (by first | exact .head _ | exact .tail _ (.head _) | exact .tail _ (.tail _ (.head _)) | exact .tail _ (.tail _ (.tail _ (.head _))) | exact .tail _ (.tail _ (.tail _ (.tail _ (.head _)))) | exact .tail _ (.tail _ (.tail _ (.tail _ (.tail _ (.head _))))) | exact .tail _ (.tail _ (.tail _ (.tail _ (.tail _ (.tail _ (.head _)))))) | exact .tail _ (.tail _ (.tail _ (.tail _ (.tail _ (.tail _ (.tail _ (.head _))))))))) _ Try.underlying3 rfl (.int .i64 (S.flatten.length : Nat)) rfl ?_))
      refine ⟨by simp, .inl ⟨_, _, rfl, run_takeDeferred HK.out, ?_⟩⟩
      have hT := hv.turn (grownBy_putObj' _ D (.deferred none)) (fun r e => by cases e; exact ⟨LD.out, _, HK.out, rfl⟩)
      exact ⟨_, results_tmp rfl _ _ _, by first | rfl | simp [List.length_flatten], hT.below⟩
    case stop =>
      rintro D cc pre W _ _ h _
      exact h.elim
theorem count_any (now : Nat) (sv : List Value) (S : List (List Tm)) (hlen : ∀ l ∈ S, l.length ≤ 1000) (w : World) (R : List (Nat × Value × List Value)) (hr0 : ∀ x ∈ R, Rd w x.1 x.2.1 x.2.2) (hi : InW R sv S) (hl8 : S.flatten.length ≤ 8000) :
    Calls Try.prog 50 #[.agg (rowW now sv)] w fun e w' => e = .returned (.int .i64 (S.flatten.length : Nat)) ∧ New w w' := callsIn_wide.1 (count_ok now sv S hlen w R hr0 hi hl8)
set_option maxRecDepth 100000 in
set_option maxHeartbeats 4000000 in
theorem BSF_end (ao : Option Addr) (n cap : Nat) (l : List Tm) (x1 : Nat) (x2 : Int) (hlt : ∀ t ∈ l, cmpT t (x1, x2) < 0) (hlen : l.length ≤ 1000) (w : World) (hr : Rd w 2 (.slice ao n cap) (cellsT l)) :
    Calls Try.prog 51 #[.slice ao n cap, .agg #[.int .u64 (x1 : Nat), .int .i64 x2], .func (.func 27) #[] #[]] w fun e w' => e = .returned (.tuple #[.int .i64 (n : Nat), .bool false]) ∧ New w w' := by
  have hv := (Mem.nil w).old hr
  have HLN := Lib.hid (len_rdT hr)
  have HL1 := Lib.hid hlen
  have HLT := Lib.hid hlt
  have HEC := Lib.hid (show Enters Try.prog 27 from enters_of Try.func27 (by kernel_rfl) rfl)
  have hn5 : (n : Int) ≤ 1000 := by have := len_rdT hr; omega
  clear hr hlen hlt
  go_enter Try.func51, Try.ntmps51
  go_wp2_with (first
    | ((with_reducible refine at_box (T := 63) (dst := some 4) ?_); refine wl_newb rfl #[.int .u64 (x1 : Nat), .int .i64 x2] 63 (fun _ => rfl) ?_; intro b4 w2 hm2; replace hv := hv.madeAt hm2; clear hm2))
  go_loopw [9, 10] (fun iv jv wr => ∃ i : Nat, i ≤ n ∧ iv = .int .i64 (i : Nat) ∧ jv = .int .i64 (n : Nat) ∧ Mem w wr [(b4, #[.int .u64 (x1 : Nat), .int .i64 x2])] [(2, .slice ao n cap, cellsT l)]) (fun iv _ _ => n - (intOf iv).toNat)
  case atStart => exact ⟨0, Nat.zero_le _, rfl, rfl, hv⟩
  case round =>
    clear hv
    obtain ⟨i, hi0, rfl, rfl, hv⟩ := hrel
    by_cases hi : i < n
    · have c1 : (i : Int) < (n : Int) := by omega
      obtain ⟨h, hh⟩ : ∃ h, h = (i + n) / 2 := ⟨_, rfl⟩
      have hhn : h < n := by omega
      have hih : i ≤ h := by omega
      have c2 : (h : Int) < (n : Int) := by omega
      have q1 : IntKind.i64.wrap ((i : Int) + (n : Int)) = (i : Int) + (n : Int) := IntWalk.i64_in _ (by omega)
      have q2 : IntKind.u64.wrap ((i : Int) + (n : Int)) = (i : Int) + (n : Int) := IntWalk.u64_in _ (by omega)
      have q3 : ((i : Int) + (n : Int)) / 2 = (h : Int) := by omega
      have q4 : IntKind.i64.wrap (h : Int) = (h : Int) := IntWalk.i64_in _ (by omega)
      have q5 : (h : Int) ≤ 1000 := by omega
      have hhl : h < l.length := by rw [HLN.out]; exact hhn
      obtain ⟨⟨e1, e2⟩, hx⟩ : ∃ x, l[h] = x := ⟨_, rfl⟩
      have HK : Hid (((cellsT l).drop (h * 2)).take 2 = [.int .u64 (e1 : Nat), .int .i64 e2]) := Lib.hid (by rw [cellsT_part l h hhl, hx])
      obtain ⟨cv, hcv⟩ : ∃ cv, cmpT (e1, e2) (x1, x2) = cv := ⟨_, rfl⟩
      have kA : ∀ w, Calls Try.prog 27 ([Value.agg #[.int .u64 (e1 : Nat), .int .i64 e2], Value.agg #[.int .u64 (x1 : Nat), .int .i64 x2]].toArray ++ #[]) w fun e w' => e = .returned (.int .i64 cv) ∧ New w w' := fun w => by have := compare_any (e1, e2) (x1, x2) w; rw [hcv] at this; exact this
      have hneg := HLT.out l[h] (List.getElem_mem hhl)
      rw [hx, hcv] at hneg
      have yv : decide (cv < 0) = true := decide_eq_true hneg
      obtain ⟨sb, so, _, _, e, hq8⟩ := (hv.rd Mem.z).some (by rw [cellsT_len]; omega)
      clear hq8
      cases e
      have HIN := Lib.hid hi
      have HHN := Lib.hid (show i ≤ h ∧ h < n from ⟨hih, hhn⟩)
      have HHH := Lib.hid hh
      clear hhl hx hi hi0 hcv hneg hhn hih hh
      go_wp2
      have HPS := Lib.hid (Any.rd_start hv Mem.z)
      try simp only [Act.put, List.setIfInBounds_toArray, List.set_cons_succ, List.set_cons_zero]
      refine Any.wp_region_walk [⟨[], none⟩, ⟨[], none⟩, ⟨[], none⟩, ⟨[], none⟩, ⟨[], none⟩, ⟨[1000], none⟩, ⟨[], none⟩, ⟨[], none⟩] [.val, .val, .val, .val, .val, .val, .val, .val] (by kernel_rfl) (by kernel_rfl) hv.vars ?_
      simp only [List.length_cons, List.length_nil, Nat.zero_add, Any.someVals]
      iterate 8 apply Exists.intro
      repeat (first
        | (refine Any.E_off rfl ?_; simp only [Act.put, List.setIfInBounds_toArray, List.set_cons_succ, List.set_cons_zero])
        | (apply Any.E_pureq rfl rfl rfl
           case h => intro K hK; go_big_quiet_op; (refine hK _ ?_; rfl)
           case hr => exact fun _ => rfl
           simp only [Act.put, List.setIfInBounds_toArray, List.set_cons_succ, List.set_cons_zero])
        | (apply Any.E_val rfl rfl rfl rfl
           case h =>
             intro E' hA K hK
             first
               | ((with_reducible refine Any.at_qload (T := 63) ?_); refine Any.q_rdv HPS.out (h * 2) rfl 2 _ Try.underlying63 rfl infoTm (by decide) #[.int .u64 (e1 : Nat), .int .i64 e2] HK.out rfl ?_; refine hK _ ?_; rfl)
               | ((with_reducible refine Any.at_qload (T := 63) ?_); refine Any.q_ldv 1000 hA (by decide) rfl rfl 2 _ Try.underlying63 rfl infoTm (by decide) rfl ?_; refine hK _ ?_; rfl)
               | ((with_reducible refine Any.at_qcall ?_); refine Any.q_callv HEC.out rfl [.agg #[.int .u64 (e1 : Nat), .int .i64 e2], .agg #[.int .u64 (x1 : Nat), .int .i64 x2]] rfl (fun w1 hw1 => Any.calls_VE (kA w1) hw1) ?_; refine hK _ ?_; rfl)
               | (go_big_quiet_op; first
                 | (refine hK _ ?_; rfl)
                 | (refine ⟨_, fun _ _ => rfl, ?_⟩; refine hK _ ?_; rfl)
                 | (apply Exists.intro; refine ⟨fun w1 hw1 => ?_, ?_⟩; · (first
                     | fail)
                    refine hK _ ?_; rfl))
           case hD => rfl
           simp only [Act.put, List.setIfInBounds_toArray, List.set_cons_succ, List.set_cons_zero])
        | ((with_reducible refine Any.at_ealloc ?_); refine Any.E_lay rfl rfl rfl (fun _ => rfl) ?_; intro B; simp only [Act.put, List.setIfInBounds_toArray, List.set_cons_succ, List.set_cons_zero]))
      try any_goals exact undef
      refine Any.E_nil ?_
      intro w9 hE9
      replace hv : Mem w w9 [(b4, #[.int .u64 (x1 : Nat), .int .i64 x2])] _ := hE9.mem hv [1000] (by decide)
      clear hE9
      go_wp2
      have hhn := HHN.out
      go_roundw
      case rel => exact ⟨h + 1, by omega, by go_num, rfl, hv⟩
      case measure => simp [intOf]; omega
    · have c1 : ¬ (i : Int) < (n : Int) := by omega
      obtain rfl : i = n := by omega
      clear hi hi0
      go_wp2
      try simp only [Act.put, List.setIfInBounds_toArray, List.set_cons_succ, List.set_cons_zero]
      refine Any.wp_region_walk [⟨[], none⟩, ⟨[], none⟩, ⟨[], none⟩, ⟨[], none⟩, ⟨[], none⟩, ⟨[], none⟩, ⟨[], none⟩, ⟨[], none⟩, ⟨[], none⟩, ⟨[], none⟩, ⟨[], none⟩, ⟨[], none⟩, ⟨[], none⟩, ⟨[], none⟩, ⟨[], none⟩, ⟨[], none⟩] [.val, .val, .val, .val, .val, .val, .val, .val, .val, .val, .val, .val, .val, .val, .val, .val] (by kernel_rfl) (by kernel_rfl) hv.vars ?_
      simp only [List.length_cons, List.length_nil, Nat.zero_add, Any.someVals]
      iterate 16 apply Exists.intro
      repeat (first
        | (refine Any.E_off rfl ?_; simp only [Act.put, List.setIfInBounds_toArray, List.set_cons_succ, List.set_cons_zero])
        | (apply Any.E_pureq rfl rfl rfl
           case h => intro K hK; go_big_quiet_op; (refine hK _ ?_; rfl)
           case hr => exact fun _ => rfl
           simp only [Act.put, List.setIfInBounds_toArray, List.set_cons_succ, List.set_cons_zero])
        | (apply Any.E_val rfl rfl rfl rfl
           case h =>
             intro E' hA K hK
             first
               | (go_big_quiet_op; first
                 | (refine hK _ ?_; rfl)
                 | (refine ⟨_, fun _ _ => rfl, ?_⟩; refine hK _ ?_; rfl)
                 | (apply Exists.intro; refine ⟨fun w1 hw1 => ?_, ?_⟩; · (first
                     | fail)
                    refine hK _ ?_; rfl))
           case hD => rfl
           simp only [Act.put, List.setIfInBounds_toArray, List.set_cons_succ, List.set_cons_zero])
        | ((with_reducible refine Any.at_ealloc ?_); refine Any.E_lay rfl rfl rfl (fun _ => rfl) ?_; intro B; simp only [Act.put, List.setIfInBounds_toArray, List.set_cons_succ, List.set_cons_zero]))
      try any_goals exact undef
      refine Any.E_nil ?_
      intro w9 hE9
      replace hv : Mem w w9 [(b4, #[.int .u64 (x1 : Nat), .int .i64 x2])] _ := hE9.mem hv [1000] (by decide)
      clear hE9
      go_wp2
      go_ret2
      exact ⟨rfl, hv.below⟩
set_option maxRecDepth 100000 in
set_option maxHeartbeats 4000000 in
theorem Insert_end (A B O : List (Nat × Array Value)) (ao : Option Addr) (n cap : Nat) (l : List Tm) (x1 : Nat) (x2 : Int) (ua : Option Addr) (uc : Nat) (hlen : l.length ≤ 1000) (w0 w : World) (R : List (Nat × Value × List Value)) (hv0 : Mem w0 w (A ++ O ++ B) R) (hO : OwnL 2 (.slice ao n cap) (cellsT l) O) (hu : (2, .slice ua 1 uc, [.int .u64 (x1 : Nat), .int .i64 x2]) ∈ R) :
    Calls Try.prog 52 #[.slice ao n cap, .int .i64 (n : Nat), .slice ua 1 uc] w fun e w' => ∃ v' O', e = .returned v' ∧ OwnL 2 v' (cellsT (l ++ [(x1, x2)])) O' ∧ Mem w0 w' (A ++ O' ++ B) R := by
  have hv := hv0
  have HO := Lib.hid hO
  have HU := Lib.hid hu
  have HLN := Lib.hid (len_rdT (hO.rd hv0))
  have HN1 : Hid (∀ z ∈ ([.int .u64 (x1 : Nat), .int .i64 x2] : List Value), z.oneCell' = true) := Lib.hid (fun z hz => by
    rcases List.mem_cons.1 hz with rfl | hz
    · rfl
    · rw [List.mem_singleton.1 hz]; rfl)
  have HP1 : Hid (((cellsT l).length + ([.int .u64 (x1 : Nat), .int .i64 x2] : List Value).length) / 2 ≤ maxLen) := Lib.hid (by rw [cellsT_len]; simp only [List.length_cons, List.length_nil]; unfold maxLen; omega)
  have HP2 : Hid (((cellsT l).length + ([.int .u64 (x1 : Nat), .int .i64 x2] : List Value).length) / 2 * 16 ≤ 140737488355328) := Lib.hid (by rw [cellsT_len]; simp only [List.length_cons, List.length_nil]; omega)
  have y1 : ((n : Int) == (n : Int)) = true := by simp
  clear hv0 hO hu hlen
  go_enter Try.func52, Try.ntmps52
  go_wp2_with (first
    | ((with_reducible refine at_slice ?_); refine wl_sliceVl rfl rfl Try.underlying23 infoTm n rfl (Nat.le_refl _) rfl ?_)
    | ((with_reducible refine at_append (t := 23) ?_); refine wl_appO (A := A) (B := B) rfl rfl HO.out hv (.agg #[.int .u64 0, .int .i64 0]) 16 Try.underlying23 infoTmz rfl (by decide) rfl (hv.rd HU.out) HN1.out HP1.out HP2.out ?_; intro v2 w7 O2 hO2 hv1; replace hv := hv1; clear hv1; obtain ⟨va, vn, vc, rfl, _⟩ := id hO2.slice; replace hO2 := Lib.hid hO2))
  all_goals
    go_ret
    have h := hO2.out
    rw [← cellsT_snoc l (x1, x2)] at h
    rw [List.append_assoc] at hv
    exact ⟨_, rfl, O2, h, hv⟩
end Go.Proofs.Ytfblognifnnadaa
