/-
  When the next one comes: Next; how many there are: count.
-/
import Derived.Test.YtfblognifnnadaaWhChk
set_option linter.unusedVariables false
set_option linter.unusedSimpArgs false
namespace Go.Proofs.Wh
open Go Go.RowKit
def preT (S : List (List Tm)) (pre : List (Fin S.flatten.length)) : List Tm := pre.map fun x => S.flatten[x.1]
theorem preT_snoc (S : List (List Tm)) (pre : List (Fin S.flatten.length)) (x : Fin S.flatten.length) : preT S (pre ++ [x]) = preT S pre ++ [S.flatten[x.1]] := by simp [preT]
theorem preT_all (S : List (List Tm)) : preT S (List.finRange S.flatten.length) = S.flatten := by
  unfold preT
  apply List.ext_getElem?
  intro i
  rw [List.getElem?_map]
  by_cases hi : i < S.flatten.length
  · rw [List.getElem?_eq_getElem (by simpa using hi), List.getElem?_eq_getElem hi]
    simp
  · rw [List.getElem?_eq_none (by simpa using hi), List.getElem?_eq_none (by omega)]
    rfl
def stepN : Option Nat → Tm → Nat
  | none, t => t.1
  | some a, t => if t.1 < a then t.1 else a
theorem nextF_snoc : ∀ (l : List Tm) (o : Option Nat) (x : Tm), nextF o (l ++ [x]) = some (stepN (nextF o l) x)
  | [], none, x => rfl
  | [], some a, x => rfl
  | t :: r, none, x => by
    rw [List.cons_append]
    show nextF (some t.1) (r ++ [x]) = _
    rw [nextF_snoc r]; rfl
  | t :: r, some a, x => by
    rw [List.cons_append]
    show nextF (some (if t.1 < a then t.1 else a)) (r ++ [x]) = _
    rw [nextF_snoc r]; rfl
/-- What Next answers. -/
def nextV (now : Nat) (S : List (List Tm)) : Option Nat := if chkW now S = true then nextF none S.flatten else none
def valN (o : Option Nat) : Value := .tuple #[.int .u64 (o.getD 0 : Nat), .bool o.isSome]
end Go.Proofs.Wh
namespace Go.Proofs.Ytfblognifnnadaa
open Go.Proofs.Wh Go.RowKit Go.Shelf
attribute [local go_sem] Oper.semAt_some
set_option maxRecDepth 100000 in
set_option maxHeartbeats 4000000 in
theorem Next_ok (now : Nat) (sv : List Value) (S : List (List Tm)) (hgd : ∀ l ∈ S, ∀ t ∈ l, (Lit.int .i64 t.2).wf = true) (hlen : ∀ l ∈ S, l.length ≤ 1000) (w : World) (R : List (Nat × Value × List Value)) (hr0 : ∀ x ∈ R, Rd w x.1 x.2.1 x.2.2) (hi : InW R sv S) (hc : chkW now S = true) :
    CallsIn Fence.wide 9 Try.prog 9 #[.agg (rowW now sv)] w fun e w' => e = .returned (valN (nextF none S.flatten)) ∧ New w w' := by
  have hv := Mem.all hr0
  have HR0 := Lib.hid hr0
  have HI := Lib.hid hi
  have HLE := Lib.hid hlen
  have HSZ : Hid ((rowW now sv).size = 9) := Lib.hid (by unfold rowW; simp only [List.size_toArray, List.length_cons]; rw [hi.1])
  have KC : Hid (∀ w1, Below w.heap.size w w1 → Calls Try.prog 13 #[.agg (rowW now sv)] w1 fun e w' => e = .returned (.bool true) ∧ New w1 w') := Lib.hid (fun w1 hb => by
    have := Check_any now sv S hgd hlen w1 R (fun x hx => (hr0 x hx).below hb) hi
    rw [hc] at this; exact this)
  clear hi hr0 hc hlen hgd
  refine callsIn_of_wp_marks Try.func9 rfl trivial ?_ rfl
  simp only [Try.ntmps9, List.size_toArray, List.length_cons, List.length_nil, Nat.reduceAdd, Nat.reduceSub, Array.replicate_succ, Array.replicate_zero, List.push_toArray, List.append_toArray, List.nil_append, List.cons_append]
  gi_wp2_with (first
    | ((with_reducible refine ati_box (T := 26) (dst := some 1) ?_); refine wi_newb (fun _ => trivial) (fun _ h => by cases h) rfl (rowW now sv) 26 (fun _ => rfl) ?_; intro b1 w2 hm2; replace hv := hv.madeAt hm2; clear hm2)
    | ((with_reducible refine ati_load (T := 26) ?_); refine wi_ldv (fun _ => trivial) rfl b1 rfl _ (hv.vars.row (by first | exact .head _ | exact .tail _ (.head _) | exact .tail _ (.tail _ (.head _)) | exact .tail _ (.tail _ (.tail _ (.head _))) | exact .tail _ (.tail _ (.tail _ (.tail _ (.head _)))) | exact .tail _ (.tail _ (.tail _ (.tail _ (.tail _ (.head _))))) | exact .tail _ (.tail _ (.tail _ (.tail _ (.tail _ (.tail _ (.head _)))))) | exact .tail _ (.tail _ (.tail _ (.tail _ (.tail _ (.tail _ (.tail _ (.head _))))))))) 9 _ Try.underlying26 rfl infoWh (by decide) HSZ.out ?_)
    | (refine ⟨trivial, ?_⟩; gi_at_call 13; (with_reducible refine (callsIn_wide.2 (KC.out _ hv.below)).mono ?_); rintro e w1 ⟨rfl, hn1⟩; replace hv := hv.new hn1; clear hn1)
    | ((with_reducible refine ati_alloc (T := 22) (dst := some 4) ?_); refine wi_newb (fun _ => trivial) (fun _ h => by cases h) rfl #[.int .u64 0] 22 (fun _ => rfl) ?_; intro b4 w2 hm2; replace hv := hv.madeAt hm2; clear hm2)
    | ((with_reducible refine ati_alloc (T := 4) (dst := some 5) ?_); refine wi_newb (fun _ => trivial) (fun _ h => by cases h) rfl #[.bool false] 4 (fun _ => rfl) ?_; intro b5 w2 hm2; replace hv := hv.madeAt hm2; clear hm2)
    | ((with_reducible refine ati_store (T := 22) ?_); refine wi_stc (fun _ => trivial) rfl b4 0 rfl (.int .u64 0) rfl _ (hv.vars.row (by first | exact .head _ | exact .tail _ (.head _) | exact .tail _ (.tail _ (.head _)) | exact .tail _ (.tail _ (.tail _ (.head _))) | exact .tail _ (.tail _ (.tail _ (.tail _ (.head _)))) | exact .tail _ (.tail _ (.tail _ (.tail _ (.tail _ (.head _))))) | exact .tail _ (.tail _ (.tail _ (.tail _ (.tail _ (.tail _ (.head _)))))) | exact .tail _ (.tail _ (.tail _ (.tail _ (.tail _ (.tail _ (.tail _ (.head _))))))))) (hv.vars.sft (by first | exact .head _ | exact .tail _ (.head _) | exact .tail _ (.tail _ (.head _)) | exact .tail _ (.tail _ (.tail _ (.head _))) | exact .tail _ (.tail _ (.tail _ (.tail _ (.head _)))) | exact .tail _ (.tail _ (.tail _ (.tail _ (.tail _ (.head _))))) | exact .tail _ (.tail _ (.tail _ (.tail _ (.tail _ (.tail _ (.head _)))))) | exact .tail _ (.tail _ (.tail _ (.tail _ (.tail _ (.tail _ (.tail _ (.head _))))))))) (by kernel_rfl) rfl (by first | decide | exact Nat.succ_pos _) ?_; intro w2 hw2; (first | (replace hv := hv.set 0 rfl hw2) | (replace hv := hv.set 1 rfl hw2) | (replace hv := hv.set 2 rfl hw2) | (replace hv := hv.set 3 rfl hw2) | (replace hv := hv.set 4 rfl hw2) | (replace hv := hv.set 5 rfl hw2)); simp only [List.set, List.setIfInBounds_toArray, List.set_cons_zero, List.set_cons_succ] at hv; clear hw2)
    | ((with_reducible refine ati_store (T := 4) ?_); refine wi_stc (fun _ => trivial) rfl b5 0 rfl (.bool false) rfl _ (hv.vars.row (by first | exact .head _ | exact .tail _ (.head _) | exact .tail _ (.tail _ (.head _)) | exact .tail _ (.tail _ (.tail _ (.head _))) | exact .tail _ (.tail _ (.tail _ (.tail _ (.head _)))) | exact .tail _ (.tail _ (.tail _ (.tail _ (.tail _ (.head _))))) | exact .tail _ (.tail _ (.tail _ (.tail _ (.tail _ (.tail _ (.head _)))))) | exact .tail _ (.tail _ (.tail _ (.tail _ (.tail _ (.tail _ (.tail _ (.head _))))))))) (hv.vars.sft (by first | exact .head _ | exact .tail _ (.head _) | exact .tail _ (.tail _ (.head _)) | exact .tail _ (.tail _ (.tail _ (.head _))) | exact .tail _ (.tail _ (.tail _ (.tail _ (.head _)))) | exact .tail _ (.tail _ (.tail _ (.tail _ (.tail _ (.head _))))) | exact .tail _ (.tail _ (.tail _ (.tail _ (.tail _ (.tail _ (.head _)))))) | exact .tail _ (.tail _ (.tail _ (.tail _ (.tail _ (.tail _ (.tail _ (.head _))))))))) (by kernel_rfl) rfl (by first | decide | exact Nat.succ_pos _) ?_; intro w2 hw2; (first | (replace hv := hv.set 0 rfl hw2) | (replace hv := hv.set 1 rfl hw2) | (replace hv := hv.set 2 rfl hw2) | (replace hv := hv.set 3 rfl hw2) | (replace hv := hv.set 4 rfl hw2) | (replace hv := hv.set 5 rfl hw2)); simp only [List.set, List.setIfInBounds_toArray, List.set_cons_zero, List.set_cons_succ] at hv; clear hw2)
    | (refine ⟨trivial, ?_⟩; gi_at_call 25; refine (all_in _ _ _).mono ?_; rintro e w' ⟨bp, rfl, hmp⟩; replace hv := hv.madeAt hmp; clear hmp))
  · skip
    have LP : Hid (bp < w'.heap.size) := Lib.hid (hv.vars.lt (b := bp) (by first | exact .head _ | exact .tail _ (.head _) | exact .tail _ (.tail _ (.head _)) | exact .tail _ (.tail _ (.tail _ (.head _))) | exact .tail _ (.tail _ (.tail _ (.tail _ (.head _)))) | exact .tail _ (.tail _ (.tail _ (.tail _ (.tail _ (.head _))))) | exact .tail _ (.tail _ (.tail _ (.tail _ (.tail _ (.tail _ (.head _)))))) | exact .tail _ (.tail _ (.tail _ (.tail _ (.tail _ (.tail _ (.tail _ (.head _)))))))))
    have L1 : Hid (b1 < w'.heap.size) := Lib.hid (hv.vars.lt (b := b1) (by first | exact .head _ | exact .tail _ (.head _) | exact .tail _ (.tail _ (.head _)) | exact .tail _ (.tail _ (.tail _ (.head _))) | exact .tail _ (.tail _ (.tail _ (.tail _ (.head _)))) | exact .tail _ (.tail _ (.tail _ (.tail _ (.tail _ (.head _))))) | exact .tail _ (.tail _ (.tail _ (.tail _ (.tail _ (.tail _ (.head _)))))) | exact .tail _ (.tail _ (.tail _ (.tail _ (.tail _ (.tail _ (.tail _ (.head _)))))))))
    have LW : Hid (w.heap.size ≤ w'.heap.size) := Lib.hid hv.below.size
    refine wpIn_rangeFunc_ownH (by rfl) (by decide) (gf := 54) (lb := #[.pointer (some ⟨bp, 0, none⟩)]) rfl trivial (enters_of Try.func54 (by kernel_rfl) rfl)
      (all_stops 8 (by decide) bp b1 w.heap.size sv S HI.out.1 HI.out.2.1 HLE.out _ (itS_of hv HR0.out (by first | exact .head _ | exact .tail _ (.head _) | exact .tail _ (.tail _ (.head _)) | exact .tail _ (.tail _ (.tail _ (.head _))) | exact .tail _ (.tail _ (.tail _ (.tail _ (.head _)))) | exact .tail _ (.tail _ (.tail _ (.tail _ (.tail _ (.head _))))) | exact .tail _ (.tail _ (.tail _ (.tail _ (.tail _ (.tail _ (.head _)))))) | exact .tail _ (.tail _ (.tail _ (.tail _ (.tail _ (.tail _ (.tail _ (.head _)))))))) (by first | exact .head _ | exact .tail _ (.head _) | exact .tail _ (.tail _ (.head _)) | exact .tail _ (.tail _ (.tail _ (.head _))) | exact .tail _ (.tail _ (.tail _ (.tail _ (.head _)))) | exact .tail _ (.tail _ (.tail _ (.tail _ (.tail _ (.head _))))) | exact .tail _ (.tail _ (.tail _ (.tail _ (.tail _ (.tail _ (.head _)))))) | exact .tail _ (.tail _ (.tail _ (.tail _ (.tail _ (.tail _ (.tail _ (.head _)))))))) HI.out)) WhK.trans (WhK.turn LW.out LP.out L1.out) (Below.refl _ _) (fun _ => rfl)
      (fun pre W => Mem w W [(bp, #[.pointer (some ⟨b1, 0, none⟩)]), (b5, #[.bool (nextF none (preT S pre)).isSome]), (b4, #[.int .u64 ((nextF none (preT S pre)).getD 0 : Nat)]), (b1, (rowW now sv))] R)
      (fun _ _ _ => False)
      (fun s A B row h hg hr => h.turn hg (fun r e => ⟨Nat.le_trans LW.out (hr r e).1, (hr r e).2⟩))
      (fun _ _ _ _ _ h _ _ => h)
      hv
      (fun x a' W => ∃ Bx, W.rowD Bx = #[.int .u64 ((S.flatten[x.1]).1 : Nat), .int .i64 (S.flatten[x.1]).2] ∧ a' = { tmps := #[.agg (rowW now sv), .pointer (some ⟨b1, 0, none⟩), .int .u64 0, .bool false, .pointer (some ⟨b4, 0, none⟩), .pointer (some ⟨b5, 0, none⟩), .pointer (some ⟨Bx, 0, none⟩), .agg (rowW now sv), .bool true, .bool false, .func (.func 54) #[] #[.pointer (some ⟨bp, 0, none⟩)], .agg #[.int .u64 ((S.flatten[x.1]).1 : Nat), .int .i64 (S.flatten[x.1]).2], undef, undef, undef, undef, undef, undef, undef, undef, undef, undef, undef, undef], defers := [] })
      (fun x a' s A B row h hg hr => by
        obtain ⟨Bx, h1, h2⟩ := h
        exact ⟨Bx, rowD_turn h1 (Nat.succ_pos 1) hg (fun r e => (hr r e).2), h2⟩) ?assign ?body ?done ?stop
    case assign =>
      rintro l0 pre x W K hv hK
      simp only [encF, zip_one, List.setIfInBounds_toArray, List.set_cons_succ, List.set_cons_zero]
      gi_wp2_with (first
        | ((with_reducible refine ati_alloc (T := 63) (dst := some 6) ?_); refine wi_newb (fun _ => trivial) (fun _ h => by cases h) rfl #[.int .u64 0, .int .i64 0] 63 (fun _ => rfl) ?_; intro bx w2 hm2)
        | ((with_reducible refine ati_store (T := 63) ?_); refine wi_stv (fun _ => trivial) rfl bx rfl #[.int .u64 ((S.flatten[x.1]).1 : Nat), .int .i64 (S.flatten[x.1]).2] rfl _ hm2.row hm2.soft 2 infoTm rfl rfl (by simp [Value.oneCell']) ?_; intro w3 hw3; have hm3 := hm2.filled hw3; have hnw := hm3.made.new; have hv0 := hv; replace hv := hv.madeAt hm3; clear hm2 hw3 hm3))
      exact hK _ _ (hnw.keeps _) (whK_of hv0 hv (hnw.size) (by first | exact .head _ | exact .tail _ (.head _) | exact .tail _ (.tail _ (.head _)) | exact .tail _ (.tail _ (.tail _ (.head _))) | exact .tail _ (.tail _ (.tail _ (.tail _ (.head _)))) | exact .tail _ (.tail _ (.tail _ (.tail _ (.tail _ (.head _))))) | exact .tail _ (.tail _ (.tail _ (.tail _ (.tail _ (.tail _ (.head _)))))) | exact .tail _ (.tail _ (.tail _ (.tail _ (.tail _ (.tail _ (.tail _ (.head _)))))))) (by first | exact .head _ | exact .tail _ (.head _) | exact .tail _ (.tail _ (.head _)) | exact .tail _ (.tail _ (.tail _ (.head _))) | exact .tail _ (.tail _ (.tail _ (.tail _ (.head _)))) | exact .tail _ (.tail _ (.tail _ (.tail _ (.tail _ (.head _))))) | exact .tail _ (.tail _ (.tail _ (.tail _ (.tail _ (.tail _ (.head _)))))) | exact .tail _ (.tail _ (.tail _ (.tail _ (.tail _ (.tail _ (.tail _ (.head _)))))))) (by first | exact .head _ | exact .tail _ (.head _) | exact .tail _ (.tail _ (.head _)) | exact .tail _ (.tail _ (.tail _ (.head _))) | exact .tail _ (.tail _ (.tail _ (.tail _ (.head _)))) | exact .tail _ (.tail _ (.tail _ (.tail _ (.tail _ (.head _))))) | exact .tail _ (.tail _ (.tail _ (.tail _ (.tail _ (.tail _ (.head _)))))) | exact .tail _ (.tail _ (.tail _ (.tail _ (.tail _ (.tail _ (.tail _ (.head _))))))) | exact .tail _ (.tail _ (.tail _ (.tail _ (.tail _ (.tail _ (.tail _ (.tail _ (.head _))))))))) (by first | exact .head _ | exact .tail _ (.head _) | exact .tail _ (.tail _ (.head _)) | exact .tail _ (.tail _ (.tail _ (.head _))) | exact .tail _ (.tail _ (.tail _ (.tail _ (.head _)))) | exact .tail _ (.tail _ (.tail _ (.tail _ (.tail _ (.head _))))) | exact .tail _ (.tail _ (.tail _ (.tail _ (.tail _ (.tail _ (.head _)))))) | exact .tail _ (.tail _ (.tail _ (.tail _ (.tail _ (.tail _ (.tail _ (.head _))))))) | exact .tail _ (.tail _ (.tail _ (.tail _ (.tail _ (.tail _ (.tail _ (.tail _ (.head _)))))))))) (hv.keep (List.sublist_cons_self _ _)) ⟨bx, hv.vars.row (b := bx) (by first | exact .head _ | exact .tail _ (.head _) | exact .tail _ (.tail _ (.head _)) | exact .tail _ (.tail _ (.tail _ (.head _))) | exact .tail _ (.tail _ (.tail _ (.tail _ (.head _)))) | exact .tail _ (.tail _ (.tail _ (.tail _ (.tail _ (.head _))))) | exact .tail _ (.tail _ (.tail _ (.tail _ (.tail _ (.tail _ (.head _)))))) | exact .tail _ (.tail _ (.tail _ (.tail _ (.tail _ (.tail _ (.tail _ (.head _)))))))), rfl⟩
    case body =>
      rintro l0 pre x a' W hl0 hr0 hv ⟨Bx, hbx, rfl⟩ hlt
      obtain ⟨⟨x1, x2⟩, hx⟩ : ∃ y, S.flatten[x.1] = y := ⟨_, rfl⟩
      have HO : Hid (nextF none (preT S (pre ++ [x])) = some (stepN (nextF none (preT S pre)) (x1, x2))) := Lib.hid (by rw [preT_snoc, nextF_snoc, hx])
      rw [hx] at hbx ⊢
      simp only [] at hbx ⊢
      have hk9 := KeepsFrom.refl w'.heap.size W
      have hv9 := hv
      generalize nextF none (preT S pre) = o at hv HO hv9
      clear hx hlt
      cases o with
      | none =>
        have HO2 : Hid (nextF none (preT S (pre ++ [x])) = some x1) := HO
        simp only [Option.isSome_none, Option.getD_none] at hv hv9
        clear HO
        gi_wp2_with (first
          | ((with_reducible refine ati_load (T := 4) ?_); refine wi_ldc (fun _ => trivial) rfl b5 0 rfl _ (hv.vars.row (by first | exact .head _ | exact .tail _ (.head _) | exact .tail _ (.tail _ (.head _)) | exact .tail _ (.tail _ (.tail _ (.head _))) | exact .tail _ (.tail _ (.tail _ (.tail _ (.head _)))) | exact .tail _ (.tail _ (.tail _ (.tail _ (.tail _ (.head _))))) | exact .tail _ (.tail _ (.tail _ (.tail _ (.tail _ (.tail _ (.head _)))))) | exact .tail _ (.tail _ (.tail _ (.tail _ (.tail _ (.tail _ (.tail _ (.head _))))))))) _ Try.underlying4 rfl (.bool false) rfl ?_)
          | ((with_reducible refine ati_load (T := 22) ?_); refine wi_ldc (fun _ => trivial) rfl Bx 0 rfl _ hbx _ Try.underlying22 rfl (.int .u64 (x1 : Nat)) rfl ?_)
          | ((with_reducible refine ati_store (T := 22) ?_); refine wi_stc (fun _ => trivial) rfl b4 0 rfl (.int .u64 (x1 : Nat)) rfl _ (hv.vars.row (by first | exact .head _ | exact .tail _ (.head _) | exact .tail _ (.tail _ (.head _)) | exact .tail _ (.tail _ (.tail _ (.head _))) | exact .tail _ (.tail _ (.tail _ (.tail _ (.head _)))) | exact .tail _ (.tail _ (.tail _ (.tail _ (.tail _ (.head _))))) | exact .tail _ (.tail _ (.tail _ (.tail _ (.tail _ (.tail _ (.head _)))))) | exact .tail _ (.tail _ (.tail _ (.tail _ (.tail _ (.tail _ (.tail _ (.head _))))))))) (hv.vars.sft (by first | exact .head _ | exact .tail _ (.head _) | exact .tail _ (.tail _ (.head _)) | exact .tail _ (.tail _ (.tail _ (.head _))) | exact .tail _ (.tail _ (.tail _ (.tail _ (.head _)))) | exact .tail _ (.tail _ (.tail _ (.tail _ (.tail _ (.head _))))) | exact .tail _ (.tail _ (.tail _ (.tail _ (.tail _ (.tail _ (.head _)))))) | exact .tail _ (.tail _ (.tail _ (.tail _ (.tail _ (.tail _ (.tail _ (.head _))))))))) (by kernel_rfl) rfl (by first | decide | exact Nat.succ_pos _) ?_; intro w2 hw2; replace hk9 := KeepsFrom.trans hk9 (hw2.keeps (hv.vars.sft (b := b4) (by first | exact .head _ | exact .tail _ (.head _) | exact .tail _ (.tail _ (.head _)) | exact .tail _ (.tail _ (.tail _ (.head _))) | exact .tail _ (.tail _ (.tail _ (.tail _ (.head _)))) | exact .tail _ (.tail _ (.tail _ (.tail _ (.tail _ (.head _))))) | exact .tail _ (.tail _ (.tail _ (.tail _ (.tail _ (.tail _ (.head _)))))) | exact .tail _ (.tail _ (.tail _ (.tail _ (.tail _ (.tail _ (.tail _ (.head _))))))))) w'.heap.size); (first | (replace hv := hv.set 0 rfl hw2) | (replace hv := hv.set 1 rfl hw2) | (replace hv := hv.set 2 rfl hw2) | (replace hv := hv.set 3 rfl hw2) | (replace hv := hv.set 4 rfl hw2) | (replace hv := hv.set 5 rfl hw2)); simp only [List.set, List.setIfInBounds_toArray, List.set_cons_zero, List.set_cons_succ] at hv; clear hw2)
          | ((with_reducible refine ati_store (T := 4) ?_); refine wi_stc (fun _ => trivial) rfl b5 0 rfl (.bool true) rfl _ (hv.vars.row (by first | exact .head _ | exact .tail _ (.head _) | exact .tail _ (.tail _ (.head _)) | exact .tail _ (.tail _ (.tail _ (.head _))) | exact .tail _ (.tail _ (.tail _ (.tail _ (.head _)))) | exact .tail _ (.tail _ (.tail _ (.tail _ (.tail _ (.head _))))) | exact .tail _ (.tail _ (.tail _ (.tail _ (.tail _ (.tail _ (.head _)))))) | exact .tail _ (.tail _ (.tail _ (.tail _ (.tail _ (.tail _ (.tail _ (.head _))))))))) (hv.vars.sft (by first | exact .head _ | exact .tail _ (.head _) | exact .tail _ (.tail _ (.head _)) | exact .tail _ (.tail _ (.tail _ (.head _))) | exact .tail _ (.tail _ (.tail _ (.tail _ (.head _)))) | exact .tail _ (.tail _ (.tail _ (.tail _ (.tail _ (.head _))))) | exact .tail _ (.tail _ (.tail _ (.tail _ (.tail _ (.tail _ (.head _)))))) | exact .tail _ (.tail _ (.tail _ (.tail _ (.tail _ (.tail _ (.tail _ (.head _))))))))) (by kernel_rfl) rfl (by first | decide | exact Nat.succ_pos _) ?_; intro w2 hw2; replace hk9 := KeepsFrom.trans hk9 (hw2.keeps (hv.vars.sft (b := b5) (by first | exact .head _ | exact .tail _ (.head _) | exact .tail _ (.tail _ (.head _)) | exact .tail _ (.tail _ (.tail _ (.head _))) | exact .tail _ (.tail _ (.tail _ (.tail _ (.head _)))) | exact .tail _ (.tail _ (.tail _ (.tail _ (.tail _ (.head _))))) | exact .tail _ (.tail _ (.tail _ (.tail _ (.tail _ (.tail _ (.head _)))))) | exact .tail _ (.tail _ (.tail _ (.tail _ (.tail _ (.tail _ (.tail _ (.head _))))))))) w'.heap.size); (first | (replace hv := hv.set 0 rfl hw2) | (replace hv := hv.set 1 rfl hw2) | (replace hv := hv.set 2 rfl hw2) | (replace hv := hv.set 3 rfl hw2) | (replace hv := hv.set 4 rfl hw2) | (replace hv := hv.set 5 rfl hw2)); simp only [List.set, List.setIfInBounds_toArray, List.set_cons_zero, List.set_cons_succ] at hv; clear hw2))
        exact ⟨hk9, whK_of hv9 hv hk9.size (by first | exact .head _ | exact .tail _ (.head _) | exact .tail _ (.tail _ (.head _)) | exact .tail _ (.tail _ (.tail _ (.head _))) | exact .tail _ (.tail _ (.tail _ (.tail _ (.head _)))) | exact .tail _ (.tail _ (.tail _ (.tail _ (.tail _ (.head _))))) | exact .tail _ (.tail _ (.tail _ (.tail _ (.tail _ (.tail _ (.head _)))))) | exact .tail _ (.tail _ (.tail _ (.tail _ (.tail _ (.tail _ (.tail _ (.head _)))))))) (by first | exact .head _ | exact .tail _ (.head _) | exact .tail _ (.tail _ (.head _)) | exact .tail _ (.tail _ (.tail _ (.head _))) | exact .tail _ (.tail _ (.tail _ (.tail _ (.head _)))) | exact .tail _ (.tail _ (.tail _ (.tail _ (.tail _ (.head _))))) | exact .tail _ (.tail _ (.tail _ (.tail _ (.tail _ (.tail _ (.head _)))))) | exact .tail _ (.tail _ (.tail _ (.tail _ (.tail _ (.tail _ (.tail _ (.head _)))))))) (by first | exact .head _ | exact .tail _ (.head _) | exact .tail _ (.tail _ (.head _)) | exact .tail _ (.tail _ (.tail _ (.head _))) | exact .tail _ (.tail _ (.tail _ (.tail _ (.head _)))) | exact .tail _ (.tail _ (.tail _ (.tail _ (.tail _ (.head _))))) | exact .tail _ (.tail _ (.tail _ (.tail _ (.tail _ (.tail _ (.head _)))))) | exact .tail _ (.tail _ (.tail _ (.tail _ (.tail _ (.tail _ (.tail _ (.head _)))))))) (by first | exact .head _ | exact .tail _ (.head _) | exact .tail _ (.tail _ (.head _)) | exact .tail _ (.tail _ (.tail _ (.head _))) | exact .tail _ (.tail _ (.tail _ (.tail _ (.head _)))) | exact .tail _ (.tail _ (.tail _ (.tail _ (.tail _ (.head _))))) | exact .tail _ (.tail _ (.tail _ (.tail _ (.tail _ (.tail _ (.head _)))))) | exact .tail _ (.tail _ (.tail _ (.tail _ (.tail _ (.tail _ (.tail _ (.head _)))))))), by simp only [HO2.out, Option.isSome_some, Option.getD_some]; exact hv⟩
      | some a =>
        simp only [Option.isSome_some, Option.getD_some] at hv hv9
        by_cases hlt : x1 < a
        · have yl : decide ((x1 : Int) < (a : Int)) = true := decide_eq_true (by omega)
          have zl : decide (x1 < a) = true := decide_eq_true hlt
          have HO2 : Hid (nextF none (preT S (pre ++ [x])) = some x1) := Lib.hid (by rw [HO.out]; unfold stepN; simp only [hlt, if_true])
          clear HO hlt
          gi_wp2_with (first
            | ((with_reducible refine ati_load (T := 4) ?_); refine wi_ldc (fun _ => trivial) rfl b5 0 rfl _ (hv.vars.row (by first | exact .head _ | exact .tail _ (.head _) | exact .tail _ (.tail _ (.head _)) | exact .tail _ (.tail _ (.tail _ (.head _))) | exact .tail _ (.tail _ (.tail _ (.tail _ (.head _)))) | exact .tail _ (.tail _ (.tail _ (.tail _ (.tail _ (.head _))))) | exact .tail _ (.tail _ (.tail _ (.tail _ (.tail _ (.tail _ (.head _)))))) | exact .tail _ (.tail _ (.tail _ (.tail _ (.tail _ (.tail _ (.tail _ (.head _))))))))) _ Try.underlying4 rfl (.bool true) rfl ?_)
            | ((with_reducible refine ati_load (T := 22) ?_); refine wi_ldc (fun _ => trivial) rfl b4 0 rfl _ (hv.vars.row (by first | exact .head _ | exact .tail _ (.head _) | exact .tail _ (.tail _ (.head _)) | exact .tail _ (.tail _ (.tail _ (.head _))) | exact .tail _ (.tail _ (.tail _ (.tail _ (.head _)))) | exact .tail _ (.tail _ (.tail _ (.tail _ (.tail _ (.head _))))) | exact .tail _ (.tail _ (.tail _ (.tail _ (.tail _ (.tail _ (.head _)))))) | exact .tail _ (.tail _ (.tail _ (.tail _ (.tail _ (.tail _ (.tail _ (.head _))))))))) _ Try.underlying22 rfl (.int .u64 (a : Nat)) rfl ?_)
            | ((with_reducible refine ati_load (T := 22) ?_); refine wi_ldc (fun _ => trivial) rfl Bx 0 rfl _ hbx _ Try.underlying22 rfl (.int .u64 (x1 : Nat)) rfl ?_)
            | ((with_reducible refine ati_store (T := 22) ?_); go_must (refine wi_stc (fun _ => trivial) rfl b4 0 rfl (.int .u64 (x1 : Nat)) rfl _ (hv.vars.row (by first | exact .head _ | exact .tail _ (.head _) | exact .tail _ (.tail _ (.head _)) | exact .tail _ (.tail _ (.tail _ (.head _))) | exact .tail _ (.tail _ (.tail _ (.tail _ (.head _)))) | exact .tail _ (.tail _ (.tail _ (.tail _ (.tail _ (.head _))))) | exact .tail _ (.tail _ (.tail _ (.tail _ (.tail _ (.tail _ (.head _)))))) | exact .tail _ (.tail _ (.tail _ (.tail _ (.tail _ (.tail _ (.tail _ (.head _))))))))) (hv.vars.sft (by first | exact .head _ | exact .tail _ (.head _) | exact .tail _ (.tail _ (.head _)) | exact .tail _ (.tail _ (.tail _ (.head _))) | exact .tail _ (.tail _ (.tail _ (.tail _ (.head _)))) | exact .tail _ (.tail _ (.tail _ (.tail _ (.tail _ (.head _))))) | exact .tail _ (.tail _ (.tail _ (.tail _ (.tail _ (.tail _ (.head _)))))) | exact .tail _ (.tail _ (.tail _ (.tail _ (.tail _ (.tail _ (.tail _ (.head _))))))))) (by kernel_rfl) rfl (by first | decide | exact Nat.succ_pos _) ?_); intro w2 hw2; replace hk9 := KeepsFrom.trans hk9 (hw2.keeps (hv.vars.sft (b := b4) (by first | exact .head _ | exact .tail _ (.head _) | exact .tail _ (.tail _ (.head _)) | exact .tail _ (.tail _ (.tail _ (.head _))) | exact .tail _ (.tail _ (.tail _ (.tail _ (.head _)))) | exact .tail _ (.tail _ (.tail _ (.tail _ (.tail _ (.head _))))) | exact .tail _ (.tail _ (.tail _ (.tail _ (.tail _ (.tail _ (.head _)))))) | exact .tail _ (.tail _ (.tail _ (.tail _ (.tail _ (.tail _ (.tail _ (.head _))))))))) w'.heap.size); (first | (replace hv := hv.set 0 rfl hw2) | (replace hv := hv.set 1 rfl hw2) | (replace hv := hv.set 2 rfl hw2) | (replace hv := hv.set 3 rfl hw2) | (replace hv := hv.set 4 rfl hw2) | (replace hv := hv.set 5 rfl hw2)); simp only [List.set, List.setIfInBounds_toArray, List.set_cons_zero, List.set_cons_succ] at hv; clear hw2)
            | ((with_reducible refine ati_store (T := 4) ?_); refine wi_stc (fun _ => trivial) rfl b5 0 rfl (.bool true) rfl _ (hv.vars.row (by first | exact .head _ | exact .tail _ (.head _) | exact .tail _ (.tail _ (.head _)) | exact .tail _ (.tail _ (.tail _ (.head _))) | exact .tail _ (.tail _ (.tail _ (.tail _ (.head _)))) | exact .tail _ (.tail _ (.tail _ (.tail _ (.tail _ (.head _))))) | exact .tail _ (.tail _ (.tail _ (.tail _ (.tail _ (.tail _ (.head _)))))) | exact .tail _ (.tail _ (.tail _ (.tail _ (.tail _ (.tail _ (.tail _ (.head _))))))))) (hv.vars.sft (by first | exact .head _ | exact .tail _ (.head _) | exact .tail _ (.tail _ (.head _)) | exact .tail _ (.tail _ (.tail _ (.head _))) | exact .tail _ (.tail _ (.tail _ (.tail _ (.head _)))) | exact .tail _ (.tail _ (.tail _ (.tail _ (.tail _ (.head _))))) | exact .tail _ (.tail _ (.tail _ (.tail _ (.tail _ (.tail _ (.head _)))))) | exact .tail _ (.tail _ (.tail _ (.tail _ (.tail _ (.tail _ (.tail _ (.head _))))))))) (by kernel_rfl) rfl (by first | decide | exact Nat.succ_pos _) ?_; intro w2 hw2; replace hk9 := KeepsFrom.trans hk9 (hw2.keeps (hv.vars.sft (b := b5) (by first | exact .head _ | exact .tail _ (.head _) | exact .tail _ (.tail _ (.head _)) | exact .tail _ (.tail _ (.tail _ (.head _))) | exact .tail _ (.tail _ (.tail _ (.tail _ (.head _)))) | exact .tail _ (.tail _ (.tail _ (.tail _ (.tail _ (.head _))))) | exact .tail _ (.tail _ (.tail _ (.tail _ (.tail _ (.tail _ (.head _)))))) | exact .tail _ (.tail _ (.tail _ (.tail _ (.tail _ (.tail _ (.tail _ (.head _))))))))) w'.heap.size); (first | (replace hv := hv.set 0 rfl hw2) | (replace hv := hv.set 1 rfl hw2) | (replace hv := hv.set 2 rfl hw2) | (replace hv := hv.set 3 rfl hw2) | (replace hv := hv.set 4 rfl hw2) | (replace hv := hv.set 5 rfl hw2)); simp only [List.set, List.setIfInBounds_toArray, List.set_cons_zero, List.set_cons_succ] at hv; clear hw2))
          exact ⟨hk9, whK_of hv9 hv hk9.size (by first | exact .head _ | exact .tail _ (.head _) | exact .tail _ (.tail _ (.head _)) | exact .tail _ (.tail _ (.tail _ (.head _))) | exact .tail _ (.tail _ (.tail _ (.tail _ (.head _)))) | exact .tail _ (.tail _ (.tail _ (.tail _ (.tail _ (.head _))))) | exact .tail _ (.tail _ (.tail _ (.tail _ (.tail _ (.tail _ (.head _)))))) | exact .tail _ (.tail _ (.tail _ (.tail _ (.tail _ (.tail _ (.tail _ (.head _)))))))) (by first | exact .head _ | exact .tail _ (.head _) | exact .tail _ (.tail _ (.head _)) | exact .tail _ (.tail _ (.tail _ (.head _))) | exact .tail _ (.tail _ (.tail _ (.tail _ (.head _)))) | exact .tail _ (.tail _ (.tail _ (.tail _ (.tail _ (.head _))))) | exact .tail _ (.tail _ (.tail _ (.tail _ (.tail _ (.tail _ (.head _)))))) | exact .tail _ (.tail _ (.tail _ (.tail _ (.tail _ (.tail _ (.tail _ (.head _)))))))) (by first | exact .head _ | exact .tail _ (.head _) | exact .tail _ (.tail _ (.head _)) | exact .tail _ (.tail _ (.tail _ (.head _))) | exact .tail _ (.tail _ (.tail _ (.tail _ (.head _)))) | exact .tail _ (.tail _ (.tail _ (.tail _ (.tail _ (.head _))))) | exact .tail _ (.tail _ (.tail _ (.tail _ (.tail _ (.tail _ (.head _)))))) | exact .tail _ (.tail _ (.tail _ (.tail _ (.tail _ (.tail _ (.tail _ (.head _)))))))) (by first | exact .head _ | exact .tail _ (.head _) | exact .tail _ (.tail _ (.head _)) | exact .tail _ (.tail _ (.tail _ (.head _))) | exact .tail _ (.tail _ (.tail _ (.tail _ (.head _)))) | exact .tail _ (.tail _ (.tail _ (.tail _ (.tail _ (.head _))))) | exact .tail _ (.tail _ (.tail _ (.tail _ (.tail _ (.tail _ (.head _)))))) | exact .tail _ (.tail _ (.tail _ (.tail _ (.tail _ (.tail _ (.tail _ (.head _)))))))), by simp only [HO2.out, Option.isSome_some, Option.getD_some]; exact hv⟩
        · have yl : decide ((x1 : Int) < (a : Int)) = false := decide_eq_false (by omega)
          have zl : decide (x1 < a) = false := decide_eq_false hlt
          have HO2 : Hid (nextF none (preT S (pre ++ [x])) = some a) := Lib.hid (by rw [HO.out]; unfold stepN; simp only [hlt, if_false])
          clear HO hlt
          gi_wp2_with (first
            | ((with_reducible refine ati_load (T := 4) ?_); refine wi_ldc (fun _ => trivial) rfl b5 0 rfl _ (hv.vars.row (by first | exact .head _ | exact .tail _ (.head _) | exact .tail _ (.tail _ (.head _)) | exact .tail _ (.tail _ (.tail _ (.head _))) | exact .tail _ (.tail _ (.tail _ (.tail _ (.head _)))) | exact .tail _ (.tail _ (.tail _ (.tail _ (.tail _ (.head _))))) | exact .tail _ (.tail _ (.tail _ (.tail _ (.tail _ (.tail _ (.head _)))))) | exact .tail _ (.tail _ (.tail _ (.tail _ (.tail _ (.tail _ (.tail _ (.head _))))))))) _ Try.underlying4 rfl (.bool true) rfl ?_)
            | ((with_reducible refine ati_load (T := 22) ?_); refine wi_ldc (fun _ => trivial) rfl b4 0 rfl _ (hv.vars.row (by first | exact .head _ | exact .tail _ (.head _) | exact .tail _ (.tail _ (.head _)) | exact .tail _ (.tail _ (.tail _ (.head _))) | exact .tail _ (.tail _ (.tail _ (.tail _ (.head _)))) | exact .tail _ (.tail _ (.tail _ (.tail _ (.tail _ (.head _))))) | exact .tail _ (.tail _ (.tail _ (.tail _ (.tail _ (.tail _ (.head _)))))) | exact .tail _ (.tail _ (.tail _ (.tail _ (.tail _ (.tail _ (.tail _ (.head _))))))))) _ Try.underlying22 rfl (.int .u64 (a : Nat)) rfl ?_)
            | ((with_reducible refine ati_load (T := 22) ?_); refine wi_ldc (fun _ => trivial) rfl Bx 0 rfl _ hbx _ Try.underlying22 rfl (.int .u64 (x1 : Nat)) rfl ?_))
          exact ⟨hk9, whK_of hv9 hv hk9.size (by first | exact .head _ | exact .tail _ (.head _) | exact .tail _ (.tail _ (.head _)) | exact .tail _ (.tail _ (.tail _ (.head _))) | exact .tail _ (.tail _ (.tail _ (.tail _ (.head _)))) | exact .tail _ (.tail _ (.tail _ (.tail _ (.tail _ (.head _))))) | exact .tail _ (.tail _ (.tail _ (.tail _ (.tail _ (.tail _ (.head _)))))) | exact .tail _ (.tail _ (.tail _ (.tail _ (.tail _ (.tail _ (.tail _ (.head _)))))))) (by first | exact .head _ | exact .tail _ (.head _) | exact .tail _ (.tail _ (.head _)) | exact .tail _ (.tail _ (.tail _ (.head _))) | exact .tail _ (.tail _ (.tail _ (.tail _ (.head _)))) | exact .tail _ (.tail _ (.tail _ (.tail _ (.tail _ (.head _))))) | exact .tail _ (.tail _ (.tail _ (.tail _ (.tail _ (.tail _ (.head _)))))) | exact .tail _ (.tail _ (.tail _ (.tail _ (.tail _ (.tail _ (.tail _ (.head _)))))))) (by first | exact .head _ | exact .tail _ (.head _) | exact .tail _ (.tail _ (.head _)) | exact .tail _ (.tail _ (.tail _ (.head _))) | exact .tail _ (.tail _ (.tail _ (.tail _ (.head _)))) | exact .tail _ (.tail _ (.tail _ (.tail _ (.tail _ (.head _))))) | exact .tail _ (.tail _ (.tail _ (.tail _ (.tail _ (.tail _ (.head _)))))) | exact .tail _ (.tail _ (.tail _ (.tail _ (.tail _ (.tail _ (.tail _ (.head _)))))))) (by first | exact .head _ | exact .tail _ (.head _) | exact .tail _ (.tail _ (.head _)) | exact .tail _ (.tail _ (.tail _ (.head _))) | exact .tail _ (.tail _ (.tail _ (.tail _ (.head _)))) | exact .tail _ (.tail _ (.tail _ (.tail _ (.tail _ (.head _))))) | exact .tail _ (.tail _ (.tail _ (.tail _ (.tail _ (.tail _ (.head _)))))) | exact .tail _ (.tail _ (.tail _ (.tail _ (.tail _ (.tail _ (.tail _ (.head _)))))))), by simp only [HO2.out, Option.isSome_some, Option.getD_some]; exact hv⟩
    case done =>
      rintro D ys W hD rfl hv hK
      rw [preT_all] at hv
      have HK := Lib.hid hK
      have LD : Hid (w.heap.size ≤ D) := Lib.hid (Nat.le_trans LW.out hD)
      obtain ⟨o, ho⟩ : ∃ o, nextF none S.flatten = o := ⟨_, rfl⟩
      rw [ho] at hv
      obtain ⟨nf, hnf⟩ : ∃ nf, o.getD 0 = nf := ⟨_, rfl⟩
      obtain ⟨ok, hok⟩ : ∃ ok, o.isSome = ok := ⟨_, rfl⟩
      have HV : Hid (Value.tuple #[.int .u64 (nf : Nat), .bool ok] = valN (nextF none S.flatten)) := Lib.hid (by rw [ho]; unfold valN; rw [hnf, hok])
      rw [hnf, hok] at hv
      clear hK hD ho hnf hok
      gi_wp2
      refine wpIn_wide.2 ?_
      refine Any.wp_region_walk [⟨[1002], none⟩, ⟨[1001], none⟩, ⟨[], none⟩, ⟨[], none⟩] [.val, .val, .val, .val] (by kernel_rfl) (by kernel_rfl) hv.vars ?_
      simp only [List.length_cons, List.length_nil, Nat.zero_add, Any.someVals]
      iterate 4 apply Exists.intro
      repeat (first
        | (refine Any.E_off rfl ?_; simp only [Act.put, List.setIfInBounds_toArray, List.set_cons_succ, List.set_cons_zero])
        | (apply Any.E_pureq rfl rfl rfl
           case h => intro K hK; go_big_quiet_op; (refine hK _ ?_; rfl)
           case hr => exact fun _ => rfl
           simp only [Act.put, List.setIfInBounds_toArray, List.set_cons_succ, List.set_cons_zero])
        | (apply Any.E_val rfl rfl rfl rfl
           case h =>
             intro E' hA K hK
             first
               | ((with_reducible refine Any.at_qload (T := 22) ?_); refine Any.q_ldc 1002 hA (by decide) rfl rfl _ Try.underlying22 rfl (.int .u64 (nf : Nat)) rfl ?_; refine hK _ ?_; rfl)
               | ((with_reducible refine Any.at_qload (T := 4) ?_); refine Any.q_ldc 1001 hA (by decide) rfl rfl _ Try.underlying4 rfl (.bool ok) rfl ?_; refine hK _ ?_; rfl)
               | (go_big_quiet_op; first
                 | (refine hK _ ?_; rfl)
                 | (refine ⟨_, fun _ _ => rfl, ?_⟩; refine hK _ ?_; rfl)
                 | (apply Exists.intro; refine ⟨fun w1 hw1 => ?_, ?_⟩; · (first
                     | fail)
                    refine hK _ ?_; rfl))
           case hD => rfl
           simp only [Act.put, List.setIfInBounds_toArray, List.set_cons_succ, List.set_cons_zero])
        | ((with_reducible refine Any.at_ealloc ?_); refine Any.E_lay rfl rfl rfl (fun _ => rfl) ?_; intro B; simp only [Act.put, List.setIfInBounds_toArray, List.set_cons_succ, List.set_cons_zero]))
      try any_goals exact undef
      refine Any.E_nil ?_
      intro w9 hE9
      replace HK := Lib.hid ((Any.VE.keeps hv.vars hE9 0).same D _ (Nat.zero_le _) HK.out rfl)
      replace hv : Mem w w9 [(bp, #[.pointer (some ⟨b1, 0, none⟩)]), (b5, #[.bool ok]), (b4, #[.int .u64 (nf : Nat)]), (b1, (rowW now sv))] _ := hE9.mem hv [1000, 1001, 1002, 1003] (by decide)
      clear hE9
      gi_wp2
      refine ⟨by simp, .inl ⟨_, _, rfl, run_takeDeferred HK.out, ?_⟩⟩
      have hT := hv.turn (grownBy_putObj' _ D (.deferred none)) (fun r e => by cases e; exact ⟨LD.out, _, HK.out, rfl⟩)
      exact ⟨_, results_tmp2 rfl _ _ _, by rw [← HV.out]; rfl, hT.below⟩
    case stop =>
      rintro D cc pre W _ _ h _
      exact h.elim
theorem Next_any (now : Nat) (sv : List Value) (S : List (List Tm)) (hgd : ∀ l ∈ S, ∀ t ∈ l, (Lit.int .i64 t.2).wf = true) (hlen : ∀ l ∈ S, l.length ≤ 1000) (w : World) (R : List (Nat × Value × List Value)) (hr0 : ∀ x ∈ R, Rd w x.1 x.2.1 x.2.2) (hi : InW R sv S) :
    Calls Try.prog 9 #[.agg (rowW now sv)] w fun e w' => e = .returned (valN (nextV now S)) ∧ New w w' := by
  by_cases hc : chkW now S = true
  · have h := callsIn_wide.1 (Next_ok now sv S hgd hlen w R hr0 hi hc)
    unfold nextV
    rw [if_pos hc]
    exact h
  · unfold nextV
    rw [if_neg hc]
    have hv := Mem.all hr0
    have HR0 := Lib.hid hr0
    have HI := Lib.hid hi
    have HLE := Lib.hid hlen
    have HSZ : Hid ((rowW now sv).size = 9) := Lib.hid (by unfold rowW; simp only [List.size_toArray, List.length_cons]; rw [hi.1])
    have KC : Hid (∀ w1, Below w.heap.size w w1 → Calls Try.prog 13 #[.agg (rowW now sv)] w1 fun e w' => e = .returned (.bool false) ∧ New w1 w') := Lib.hid (fun w1 hb => by
      have := Check_any now sv S hgd hlen w1 R (fun x hx => (hr0 x hx).below hb) hi
      rw [b_false hc] at this; exact this)
    clear hi hr0 hc hlen hgd
    go_enter Try.func9, Try.ntmps9
    go_wp2_with (first
      | ((with_reducible refine at_box (T := 26) (dst := some 1) ?_); refine wl_newb rfl (rowW now sv) 26 (fun _ => rfl) ?_; intro b1 w2 hm2; replace hv := hv.madeAt hm2; clear hm2)
      | ((with_reducible refine at_load (T := 26) ?_); refine wl_ldv rfl b1 rfl _ (hv.vars.row (by first | exact .head _ | exact .tail _ (.head _) | exact .tail _ (.tail _ (.head _)) | exact .tail _ (.tail _ (.tail _ (.head _))) | exact .tail _ (.tail _ (.tail _ (.tail _ (.head _)))) | exact .tail _ (.tail _ (.tail _ (.tail _ (.tail _ (.head _))))) | exact .tail _ (.tail _ (.tail _ (.tail _ (.tail _ (.tail _ (.head _)))))) | exact .tail _ (.tail _ (.tail _ (.tail _ (.tail _ (.tail _ (.tail _ (.head _))))))))) 9 _ Try.underlying26 rfl infoWh (by decide) HSZ.out ?_)
      | (go_at_call 13; (with_reducible refine (KC.out _ hv.below).mono ?_); rintro e w1 ⟨rfl, hn1⟩; replace hv := hv.new hn1; clear hn1))
    go_ret2
    exact ⟨rfl, hv.below⟩
end Go.Proofs.Ytfblognifnnadaa
