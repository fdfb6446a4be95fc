/-
  Time goes on: Advance.
-/
import Derived.Test.YtfblognifnnadaaWhNext
import Derived.Test.YtfblognifnnadaaWhOut
import Derived.Test.YtfblognifnnadaaWhSort
import Derived.Deep.DeepMust
set_option linter.unusedVariables false
set_option linter.unusedSimpArgs false
namespace Go.Proofs.Wh
open Go Go.RowKit
theorem cameF_snoc (nw : Nat) (l : List Tm) (x : Tm) : cameF nw (l ++ [x]) = if x.1 ≤ nw then cameF nw l ++ [x] else cameF nw l := by
  unfold cameF
  rw [List.filter_append]
  by_cases h : x.1 ≤ nw <;> simp [h]
theorem cellsT_one (x1 : Nat) (x2 : Int) (l : List Tm) : cellsT (l ++ [(x1, x2)]) = cellsT l ++ [.int .u64 (x1 : Nat), .int .i64 x2] := cellsT_snoc l (x1, x2)
theorem came_len (nw : Nat) (S : List (List Tm)) (pre : List (Fin S.flatten.length)) : (cameF nw (preT S pre)).length ≤ pre.length := by
  refine Nat.le_trans (List.length_filter_le _ _) ?_
  unfold preT; rw [List.length_map]; exact Nat.le_refl _
def idsI (l : List Tm) : List Value := l.map fun x => Value.int .i64 x.2
theorem idsI_len (l : List Tm) : (idsI l).length = l.length := by unfold idsI; rw [List.length_map]
theorem rowW_now (now nw : Nat) (sv : List Value) : (rowW now sv).setIfInBounds 0 (.int .u64 (nw : Nat)) = rowW nw sv := by
  unfold rowW
  rw [List.setIfInBounds_toArray, List.set_cons_zero]
theorem rowW_one {w0 w : World} {L : List (Nat × Array Value)} {R : List (Nat × Value × List Value)} {sv : List Value} {S : List (List Tm)} {now : Nat} (hv : Mem w0 w L R) (hi : InW R sv S) : (rowW now sv).all (·.oneCell') = true := by
  rw [Array.all_eq_true_iff_forall_mem]
  intro x hx
  unfold rowW at hx
  rw [List.mem_toArray] at hx
  rcases List.mem_cons.1 hx with rfl | hx
  · rfl
  · obtain ⟨j, hj, rfl⟩ := List.mem_iff_getElem.1 hx
    have hjS : j < S.length := by rw [hi.2.1, ← hi.1]; exact hj
    obtain ⟨_, _, _, e, _⟩ := hv.rd (hi.2.2 j _ _ (List.getElem?_eq_getElem hj) (List.getElem?_eq_getElem hjS))
    rw [e]; rfl
theorem frb_mono {w w1 : World} {x : Nat × Value × List Value} (h : FRb w1 x) (hs : w.heap.size ≤ w1.heap.size) : FRb w x := fun hc => by
  obtain ⟨b, o, n, cap, e, hb⟩ := h hc
  exact ⟨b, o, n, cap, e, Nat.le_trans hs hb⟩
theorem res_cell2 {P : Program} {fn : Func} {tmps : Array Value} {w : World} {p t1 : Tmp} {ty : TypeId} {ad : Addr} {v v1 : Value} (h : fn.results = #[.cell p ty, .tmp t1]) (hp : tmps.getD p undef = .pointer (some ad)) (hl : (loadVar ty ad).run P w = .ok v w) (h1 : tmps.getD t1 undef = v1) : (results fn tmps).run P w = .ok (.tuple #[v, v1]) w := by
  have hp' : tmps[p]?.getD undef = .pointer (some ad) := by simpa using hp
  have h1' : tmps[t1]?.getD undef = v1 := by simpa using h1
  simp [results, h, hp', asAddr, hl, h1']
/-- What Advance does where time may go on. -/
def AdvOk (now nw : Nat) (sv : List Value) (S : List (List Tm)) (R : List (Nat × Value × List Value)) (w : World) (e : Ending) (w' : World) : Prop :=
  ∃ sv' R' v cs, e = .returned (.tuple #[.agg (rowW nw sv'), v]) ∧ New w w' ∧ (∀ x ∈ R', Rd w' x.1 x.2.1 x.2.2) ∧ AllF w R' ∧ InW (R' ++ R) sv' (S.map fun l => l.filter fun t => !decide (t.1 ≤ nw)) ∧ (1, v, idsI cs) ∈ R' ∧ cs.Perm (cameF nw S.flatten) ∧ cs.Pairwise (fun x y => ¬ tlt y x)
def advB (now nw : Nat) (S : List (List Tm)) : Bool := decide (now < nw) && decide (nw ≤ MaxT) && chkW now S
end Go.Proofs.Wh
namespace Go.Proofs.Ytfblognifnnadaa
open Go.Proofs.Wh Go.RowKit Go.Shelf Go.Proofs
attribute [local go_sem] Oper.semAt_some
set_option maxRecDepth 100000 in
set_option maxHeartbeats 4000000 in
theorem goes_any (b3 nw : Nat) (y1 : Nat) (y2 : Int) (w : World) (hr : w.rowD b3 = #[.int .u64 (nw : Nat)]) : Calls Try.prog 29 (#[.agg #[.int .u64 (y1 : Nat), .int .i64 y2]] ++ #[.pointer (some ⟨b3, 0, none⟩)]) w fun e w' => e = .returned (.bool (decide (y1 ≤ nw))) ∧ New w w' := by
  have hv := Mem.nil w
  have HR : Hid (∀ w', New w w' → w'.rowD b3 = #[.int .u64 (nw : Nat)]) := Lib.hid (fun w' hn => by
    have hsz : 0 < (w.rowD b3).size := by rw [hr]; exact Nat.succ_pos _
    obtain ⟨t, fr, ht⟩ := rowD_block hsz
    rw [hn.row (Array.getElem?_eq_some_iff.1 ht).1]; exact hr)
  clear hr
  show Calls Try.prog 29 #[.agg #[.int .u64 (y1 : Nat), .int .i64 y2], .pointer (some ⟨b3, 0, none⟩)] w _
  go_enter Try.func29, Try.ntmps29
  go_wp2_with (first
    | ((with_reducible refine at_box (T := 63) (dst := some 2) ?_); refine wl_newb rfl #[.int .u64 (y1 : Nat), .int .i64 y2] 63 (fun _ => rfl) ?_; intro b2 w2 hm2; replace hv := hv.madeAt hm2; clear hm2)
    | ((with_reducible refine at_load (T := 22) ?_); refine wl_ldc rfl b2 0 rfl _ (hv.vars.row (by first | exact .head _ | exact .tail _ (.head _) | exact .tail _ (.tail _ (.head _)) | exact .tail _ (.tail _ (.tail _ (.head _))) | exact .tail _ (.tail _ (.tail _ (.tail _ (.head _)))) | exact .tail _ (.tail _ (.tail _ (.tail _ (.tail _ (.head _))))) | exact .tail _ (.tail _ (.tail _ (.tail _ (.tail _ (.tail _ (.head _)))))) | exact .tail _ (.tail _ (.tail _ (.tail _ (.tail _ (.tail _ (.tail _ (.head _))))))))) _ Try.underlying22 rfl (.int .u64 (y1 : Nat)) rfl ?_)
    | ((with_reducible refine at_load (T := 22) ?_); refine wl_ldc rfl b3 0 rfl _ (HR.out _ hv.below) _ Try.underlying22 rfl (.int .u64 (nw : Nat)) rfl ?_))
  go_ret
  exact ⟨rfl, hv.below⟩
set_option maxRecDepth 100000 in
set_option maxHeartbeats 4000000 in
theorem sort_own (A B O : List (Nat × Array Value)) (v : Value) (l : List Tm) (hn : l.length ≤ 100000) (w0 w : World) (R : List (Nat × Value × List Value)) (hv : Mem w0 w (A ++ O ++ B) R) (hO : OwnL 2 v (cellsT l) O) :
    Calls Try.prog 26 #[v, .func (.func 27) #[] #[]] w fun e w' => e = .returned (.tuple #[]) ∧ ∃ l' O', l'.Perm l ∧ l'.Pairwise (fun x y => ¬ tlt y x) ∧ Mem w0 w' (A ++ O' ++ B) R ∧ OwnL 2 v (cellsT l') O' ∧ KeepsFrom 0 w w' := by
  rcases hO with ⟨rfl, hc, rfl⟩ | ⟨⟨b, z⟩, hrow, rfl⟩
  · have hl : l = [] := List.length_eq_zero_iff.1 (by
      have h := cellsT_len l
      rw [hc] at h
      simp only [List.length_nil] at h
      omega)
    subst hl
    refine (sort_none none 0 _ w).mono ?_
    rintro e w' ⟨rfl, rfl⟩
    exact ⟨rfl, [], [], List.Perm.refl _, List.Pairwise.nil, hv, OwnL.nil 2, KeepsFrom.refl _ _⟩
  · obtain ⟨n, cap, rfl, hrest⟩ := id hrow
    refine (sort_any b n cap z l hn w0 w (A ++ B) R (hv.perm (perm_mid A B _)) hrow).mono ?_
    rintro e w' ⟨rfl, l', z', h1, h2, h3, h4, h5, h6⟩
    exact ⟨rfl, l', [(b, z')], h1, h2, h3.perm (perm_mid A B _).symm, OwnL.row h4, keeps_app hv ⟨h5, fun j hj hne => h6 j hj (fun e => hne (b, z) (List.mem_singleton.2 rfl) e.symm)⟩ 0⟩
theorem infoIz : (Try.prog.info? 3).map (fun i => (i.zero, i.size, i.bytes)) = some (some (.int .i64 0), 1, 8) := by kernel_rfl
set_option maxRecDepth 100000 in
set_option maxHeartbeats 4000000 in
theorem Adv_ok (now nw : Nat) (sv : List Value) (S : List (List Tm)) (hgd : ∀ l ∈ S, ∀ t ∈ l, (Lit.int .i64 t.2).wf = true) (hlen : ∀ l ∈ S, l.length ≤ 1000) (w : World) (R : List (Nat × Value × List Value)) (hr0 : ∀ x ∈ R, Rd w x.1 x.2.1 x.2.2) (hi : InW R sv S) (hc : chkW now S = true) (h1 : now < nw) (h2 : nw ≤ 1099511627776) :
    CallsIn Fence.wide 9 Try.prog 10 #[.agg (rowW now sv), .int .u64 (nw : Nat)] w (AdvOk now nw sv S R w) := by
  have hv := Mem.all hr0
  have HR0 := Lib.hid hr0
  have HI := Lib.hid hi
  have HLE := Lib.hid hlen
  have HSZ : Hid ((rowW now sv).size = 9) := Lib.hid (by unfold rowW; simp only [List.size_toArray, List.length_cons]; rw [hi.1])
  have KC : Hid (∀ w1, Below w.heap.size w w1 → Calls Try.prog 13 #[.agg (rowW now sv)] w1 fun e w' => e = .returned (.bool true) ∧ New w1 w') := Lib.hid (fun w1 hb => by
    have := Check_any now sv S hgd hlen w1 R (fun x hx => (hr0 x hx).below hb) hi
    rw [hc] at this; exact this)
  have HFN : Hid (S.flatten.length ≤ 32) := Lib.hid (by
    unfold chkW at hc
    simp only [Bool.and_eq_true, decide_eq_true_eq] at hc
    exact hc.1.1.2)
  have y1 : decide ((nw : Int) ≤ (now : Int)) = false := decide_eq_false (by omega)
  have z1 : decide (nw ≤ now) = false := decide_eq_false (by omega)
  have y2 : decide ((1099511627776 : Int) < (nw : Int)) = false := decide_eq_false (by omega)
  have z2 : decide ((1099511627776 : Nat) < nw) = false := decide_eq_false (by omega)
  have y2n : ¬ (1099511627776 : Int) < (nw : Int) := by omega
  clear hi hr0 hc hlen hgd h1 h2
  refine callsIn_of_wp_marks Try.func10 rfl trivial ?_ rfl
  simp only [Try.ntmps10, List.size_toArray, List.length_cons, List.length_nil, Nat.reduceAdd, Nat.reduceSub, Array.replicate_succ, Array.replicate_zero, List.push_toArray, List.append_toArray, List.nil_append, List.cons_append]
  gi_wp2_with (first
    | ((with_reducible refine ati_box (T := 26) (dst := some 2) ?_); refine wi_newb (fun _ => trivial) (fun _ h => by cases h) rfl (rowW now sv) 26 (fun _ => rfl) ?_; intro b2 w2 hm2; replace hv := hv.madeAt hm2; clear hm2)
    | ((with_reducible refine ati_box (T := 22) (dst := some 3) ?_); refine wi_newb (fun _ => trivial) (fun _ h => by cases h) rfl #[.int .u64 (nw : Nat)] 22 (fun _ => rfl) ?_; intro b3 w2 hm2; replace hv := hv.madeAt hm2; clear hm2)
    | ((with_reducible refine ati_alloc (T := 26) (dst := some 4) ?_); refine wi_newb (fun _ => trivial) (fun _ h => by cases h) rfl (rowW 0 (List.replicate 8 (.slice none 0 0))) 26 (fun _ => rfl) ?_; intro b4 w2 hm2; replace hv := hv.madeAt hm2; clear hm2)
    | ((with_reducible refine ati_load (T := 22) ?_); refine wi_ldc (fun _ => trivial) rfl b3 0 rfl _ (hv.vars.row (by first | exact .head _ | exact .tail _ (.head _) | exact .tail _ (.tail _ (.head _)) | exact .tail _ (.tail _ (.tail _ (.head _))) | exact .tail _ (.tail _ (.tail _ (.tail _ (.head _)))) | exact .tail _ (.tail _ (.tail _ (.tail _ (.tail _ (.head _))))) | exact .tail _ (.tail _ (.tail _ (.tail _ (.tail _ (.tail _ (.head _)))))) | exact .tail _ (.tail _ (.tail _ (.tail _ (.tail _ (.tail _ (.tail _ (.head _))))))))) _ Try.underlying22 rfl (.int .u64 (nw : Nat)) rfl ?_)
    | ((with_reducible refine ati_load (T := 22) ?_); refine wi_ldc (fun _ => trivial) rfl b2 0 rfl _ (hv.vars.row (by first | exact .head _ | exact .tail _ (.head _) | exact .tail _ (.tail _ (.head _)) | exact .tail _ (.tail _ (.tail _ (.head _))) | exact .tail _ (.tail _ (.tail _ (.tail _ (.head _)))) | exact .tail _ (.tail _ (.tail _ (.tail _ (.tail _ (.head _))))) | exact .tail _ (.tail _ (.tail _ (.tail _ (.tail _ (.tail _ (.head _)))))) | exact .tail _ (.tail _ (.tail _ (.tail _ (.tail _ (.tail _ (.tail _ (.head _))))))))) _ Try.underlying22 rfl (.int .u64 (now : Nat)) rfl ?_)
    | ((with_reducible refine ati_load (T := 26) ?_); refine wi_ldv (fun _ => trivial) rfl b2 rfl _ (hv.vars.row (by first | exact .head _ | exact .tail _ (.head _) | exact .tail _ (.tail _ (.head _)) | exact .tail _ (.tail _ (.tail _ (.head _))) | exact .tail _ (.tail _ (.tail _ (.tail _ (.head _)))) | exact .tail _ (.tail _ (.tail _ (.tail _ (.tail _ (.head _))))) | exact .tail _ (.tail _ (.tail _ (.tail _ (.tail _ (.tail _ (.head _)))))) | exact .tail _ (.tail _ (.tail _ (.tail _ (.tail _ (.tail _ (.tail _ (.head _))))))))) 9 _ Try.underlying26 rfl infoWh (by decide) HSZ.out ?_)
    | (refine ⟨trivial, ?_⟩; gi_at_call 13; (with_reducible refine (callsIn_wide.2 (KC.out _ hv.below)).mono ?_); rintro e w1 ⟨rfl, hn1⟩; replace hv := hv.new hn1; clear hn1)
    | ((with_reducible refine ati_alloc (T := 23) (dst := some 6) ?_); refine wi_newb (fun _ => trivial) (fun _ h => by cases h) rfl #[.slice none 0 0] 23 (fun _ => rfl) ?_; intro b6 w2 hm2; replace hv := hv.madeAt hm2; clear hm2)
    | (refine ⟨trivial, ?_⟩; gi_at_call 25; refine (all_in _ _ _).mono ?_; rintro e w' ⟨bp, rfl, hmp⟩; replace hv := hv.madeAt hmp; clear hmp))
  · skip
    have LP : Hid (bp < w'.heap.size) := Lib.hid (hv.vars.lt (b := bp) (by first | exact .head _ | exact .tail _ (.head _) | exact .tail _ (.tail _ (.head _)) | exact .tail _ (.tail _ (.tail _ (.head _))) | exact .tail _ (.tail _ (.tail _ (.tail _ (.head _)))) | exact .tail _ (.tail _ (.tail _ (.tail _ (.tail _ (.head _))))) | exact .tail _ (.tail _ (.tail _ (.tail _ (.tail _ (.tail _ (.head _)))))) | exact .tail _ (.tail _ (.tail _ (.tail _ (.tail _ (.tail _ (.tail _ (.head _)))))))))
    have L2 : Hid (b2 < w'.heap.size) := Lib.hid (hv.vars.lt (b := b2) (by first | exact .head _ | exact .tail _ (.head _) | exact .tail _ (.tail _ (.head _)) | exact .tail _ (.tail _ (.tail _ (.head _))) | exact .tail _ (.tail _ (.tail _ (.tail _ (.head _)))) | exact .tail _ (.tail _ (.tail _ (.tail _ (.tail _ (.head _))))) | exact .tail _ (.tail _ (.tail _ (.tail _ (.tail _ (.tail _ (.head _)))))) | exact .tail _ (.tail _ (.tail _ (.tail _ (.tail _ (.tail _ (.tail _ (.head _)))))))))
    have LW : Hid (w.heap.size ≤ w'.heap.size) := Lib.hid hv.below.size
    refine wpIn_rangeFunc_ownH (by rfl) (by decide) (gf := 54) (lb := #[.pointer (some ⟨bp, 0, none⟩)]) rfl trivial (enters_of Try.func54 (by kernel_rfl) rfl)
      (all_stops 8 (by decide) bp b2 w.heap.size sv S HI.out.1 HI.out.2.1 HLE.out _ (itS_of hv HR0.out (by first | exact .head _ | exact .tail _ (.head _) | exact .tail _ (.tail _ (.head _)) | exact .tail _ (.tail _ (.tail _ (.head _))) | exact .tail _ (.tail _ (.tail _ (.tail _ (.head _)))) | exact .tail _ (.tail _ (.tail _ (.tail _ (.tail _ (.head _))))) | exact .tail _ (.tail _ (.tail _ (.tail _ (.tail _ (.tail _ (.head _)))))) | exact .tail _ (.tail _ (.tail _ (.tail _ (.tail _ (.tail _ (.tail _ (.head _)))))))) (by first | exact .head _ | exact .tail _ (.head _) | exact .tail _ (.tail _ (.head _)) | exact .tail _ (.tail _ (.tail _ (.head _))) | exact .tail _ (.tail _ (.tail _ (.tail _ (.head _)))) | exact .tail _ (.tail _ (.tail _ (.tail _ (.tail _ (.head _))))) | exact .tail _ (.tail _ (.tail _ (.tail _ (.tail _ (.tail _ (.head _)))))) | exact .tail _ (.tail _ (.tail _ (.tail _ (.tail _ (.tail _ (.tail _ (.head _)))))))) HI.out)) WhK.trans (WhK.turn LW.out LP.out L2.out) (Below.refl _ _) (fun _ => rfl)
      (fun pre W => ∃ v O, Mem w W ((bp, #[.pointer (some ⟨b2, 0, none⟩)]) :: (b6, #[v]) :: (b4, (rowW 0 (List.replicate 8 (.slice none 0 0)))) :: (b3, #[.int .u64 (nw : Nat)]) :: (b2, (rowW now sv)) :: (O)) R ∧ OwnL 2 v (cellsT (cameF nw (preT S pre))) O)
      (fun _ _ _ => False)
      (fun s A B row h hg hr => by obtain ⟨v, O, h1, h2⟩ := h; exact ⟨v, O, h1.turn hg (fun r e => ⟨Nat.le_trans LW.out (hr r e).1, (hr r e).2⟩), h2⟩)
      (fun _ _ _ _ _ h _ _ => h)
      ⟨_, [], hv, OwnL.nil 2⟩
      (fun x a' W => ∃ Bx, W.rowD Bx = #[.int .u64 ((S.flatten[x.1]).1 : Nat), .int .i64 (S.flatten[x.1]).2] ∧ a' = { tmps := #[.agg (rowW now sv), .int .u64 (nw : Nat), .pointer (some ⟨b2, 0, none⟩), .pointer (some ⟨b3, 0, none⟩), .pointer (some ⟨b4, 0, none⟩), .slice none 0 0, .pointer (some ⟨b6, 0, none⟩), .pointer (some ⟨Bx, 0, none⟩), undef, undef, undef, .int .u64 (nw : Nat), .pointer (some ⟨b2, 0, none⟩), .int .u64 (now : Nat), .bool false, .bool false, .int .u64 (nw : Nat), .bool false, .bool false, .bool false, .agg (rowW now sv), .bool true, .bool false, .bool false, undef, .func (.func 54) #[] #[.pointer (some ⟨bp, 0, none⟩)], .agg #[.int .u64 ((S.flatten[x.1]).1 : Nat), .int .i64 (S.flatten[x.1]).2], undef, undef, undef, undef, undef, undef, undef, undef, undef, undef, undef, undef, undef, undef, undef, undef, undef, undef, undef, undef, undef, undef, undef, undef, undef, undef, undef, undef, undef], defers := [] })
      (fun x a' s A B row h hg hr => by
        obtain ⟨Bx, h1, h2⟩ := h
        exact ⟨Bx, rowD_turn h1 (Nat.succ_pos 1) hg (fun r e => (hr r e).2), h2⟩) ?assign ?body ?done ?stop
    case assign =>
      rintro l0 pre x W K ⟨v1, O, hv, hO⟩ hK
      simp only [encF, zip_one, List.setIfInBounds_toArray, List.set_cons_succ, List.set_cons_zero]
      gi_wp2_with (first
        | ((with_reducible refine ati_alloc (T := 63) (dst := some 7) ?_); refine wi_newb (fun _ => trivial) (fun _ h => by cases h) rfl #[.int .u64 0, .int .i64 0] 63 (fun _ => rfl) ?_; intro bx w2 hm2)
        | ((with_reducible refine ati_store (T := 63) ?_); refine wi_stv (fun _ => trivial) rfl bx rfl #[.int .u64 ((S.flatten[x.1]).1 : Nat), .int .i64 (S.flatten[x.1]).2] rfl _ hm2.row hm2.soft 2 infoTm rfl rfl (by simp [Value.oneCell']) ?_; intro w3 hw3; have hm3 := hm2.filled hw3; have hnw := hm3.made.new; have hv0 := hv; replace hv := hv.madeAt hm3; clear hm2 hw3 hm3))
      exact hK _ _ (hnw.keeps _) (whK_of hv0 hv (hnw.size) (by first | exact .head _ | exact .tail _ (.head _) | exact .tail _ (.tail _ (.head _)) | exact .tail _ (.tail _ (.tail _ (.head _))) | exact .tail _ (.tail _ (.tail _ (.tail _ (.head _)))) | exact .tail _ (.tail _ (.tail _ (.tail _ (.tail _ (.head _))))) | exact .tail _ (.tail _ (.tail _ (.tail _ (.tail _ (.tail _ (.head _)))))) | exact .tail _ (.tail _ (.tail _ (.tail _ (.tail _ (.tail _ (.tail _ (.head _)))))))) (by first | exact .head _ | exact .tail _ (.head _) | exact .tail _ (.tail _ (.head _)) | exact .tail _ (.tail _ (.tail _ (.head _))) | exact .tail _ (.tail _ (.tail _ (.tail _ (.head _)))) | exact .tail _ (.tail _ (.tail _ (.tail _ (.tail _ (.head _))))) | exact .tail _ (.tail _ (.tail _ (.tail _ (.tail _ (.tail _ (.head _)))))) | exact .tail _ (.tail _ (.tail _ (.tail _ (.tail _ (.tail _ (.tail _ (.head _)))))))) (by first | exact .head _ | exact .tail _ (.head _) | exact .tail _ (.tail _ (.head _)) | exact .tail _ (.tail _ (.tail _ (.head _))) | exact .tail _ (.tail _ (.tail _ (.tail _ (.head _)))) | exact .tail _ (.tail _ (.tail _ (.tail _ (.tail _ (.head _))))) | exact .tail _ (.tail _ (.tail _ (.tail _ (.tail _ (.tail _ (.head _)))))) | exact .tail _ (.tail _ (.tail _ (.tail _ (.tail _ (.tail _ (.tail _ (.head _))))))) | exact .tail _ (.tail _ (.tail _ (.tail _ (.tail _ (.tail _ (.tail _ (.tail _ (.head _))))))))) (by first | exact .head _ | exact .tail _ (.head _) | exact .tail _ (.tail _ (.head _)) | exact .tail _ (.tail _ (.tail _ (.head _))) | exact .tail _ (.tail _ (.tail _ (.tail _ (.head _)))) | exact .tail _ (.tail _ (.tail _ (.tail _ (.tail _ (.head _))))) | exact .tail _ (.tail _ (.tail _ (.tail _ (.tail _ (.tail _ (.head _)))))) | exact .tail _ (.tail _ (.tail _ (.tail _ (.tail _ (.tail _ (.tail _ (.head _))))))) | exact .tail _ (.tail _ (.tail _ (.tail _ (.tail _ (.tail _ (.tail _ (.tail _ (.head _)))))))))) ⟨v1, O, hv.keep (List.sublist_cons_self _ _), hO⟩ ⟨bx, hv.vars.row (b := bx) (by first | exact .head _ | exact .tail _ (.head _) | exact .tail _ (.tail _ (.head _)) | exact .tail _ (.tail _ (.tail _ (.head _))) | exact .tail _ (.tail _ (.tail _ (.tail _ (.head _)))) | exact .tail _ (.tail _ (.tail _ (.tail _ (.tail _ (.head _))))) | exact .tail _ (.tail _ (.tail _ (.tail _ (.tail _ (.tail _ (.head _)))))) | exact .tail _ (.tail _ (.tail _ (.tail _ (.tail _ (.tail _ (.tail _ (.head _)))))))), rfl⟩
    case body =>
      rintro l0 pre x a' W hl0 hr0 ⟨v1, O, hv, hO⟩ ⟨Bx, hbx, rfl⟩ hlt
      obtain ⟨⟨x1, x2⟩, hx⟩ : ∃ y, S.flatten[x.1] = y := ⟨_, rfl⟩
      rw [hx] at hbx ⊢
      simp only [] at hbx ⊢
      have hv9 := hv
      have hle := Nat.le_trans (came_len nw S pre) (Nat.le_of_lt hlt)
      have HST : Hid (cameF nw (preT S (pre ++ [x])) = if x1 ≤ nw then cameF nw (preT S pre) ++ [(x1, x2)] else cameF nw (preT S pre)) := Lib.hid (by rw [preT_snoc, cameF_snoc, hx])
      generalize cameF nw (preT S pre) = C at hO HST hle
      have HO := Lib.hid hO
      have hCL : C.length ≤ 32 := by have := HFN.out; omega
      clear hx hlt hO hle
      by_cases hle : x1 ≤ nw
      · have yl : decide ((x1 : Int) ≤ (nw : Int)) = true := decide_eq_true (by omega)
        have zl : decide (x1 ≤ nw) = true := decide_eq_true hle
        have HS2 : Hid (cellsT (cameF nw (preT S (pre ++ [x]))) = cellsT C ++ [.int .u64 (x1 : Nat), .int .i64 x2]) := Lib.hid (by rw [HST.out, if_pos hle, cellsT_one])
        have HN1 : Hid (∀ z ∈ ([.int .u64 (x1 : Nat), .int .i64 x2] : List Value), z.oneCell' = true) := Lib.hid (fun z hz => by
          rcases List.mem_cons.1 hz with rfl | hz
          · rfl
          · rw [List.mem_singleton.1 hz]; rfl)
        have HP1 : Hid (((cellsT C).length + ([.int .u64 (x1 : Nat), .int .i64 x2] : List Value).length) / 2 ≤ maxLen) := Lib.hid (by rw [cellsT_len]; simp only [List.length_cons, List.length_nil]; unfold maxLen; omega)
        have HP2 : Hid (((cellsT C).length + ([.int .u64 (x1 : Nat), .int .i64 x2] : List Value).length) / 2 * 16 ≤ 140737488355328) := Lib.hid (by rw [cellsT_len]; simp only [List.length_cons, List.length_nil]; omega)
        clear HST hle hCL
        gi_wp2_with (first
          | ((with_reducible refine ati_load (T := 22) ?_); refine wi_ldc (fun _ => trivial) rfl Bx 0 rfl _ hbx _ Try.underlying22 rfl (.int .u64 (x1 : Nat)) rfl ?_)
          | ((with_reducible refine ati_load (T := 22) ?_); refine wi_ldc (fun _ => trivial) rfl b3 0 rfl _ (hv.vars.row (by first | exact .head _ | exact .tail _ (.head _) | exact .tail _ (.tail _ (.head _)) | exact .tail _ (.tail _ (.tail _ (.head _))) | exact .tail _ (.tail _ (.tail _ (.tail _ (.head _)))) | exact .tail _ (.tail _ (.tail _ (.tail _ (.tail _ (.head _))))) | exact .tail _ (.tail _ (.tail _ (.tail _ (.tail _ (.tail _ (.head _)))))) | exact .tail _ (.tail _ (.tail _ (.tail _ (.tail _ (.tail _ (.tail _ (.head _))))))))) _ Try.underlying22 rfl (.int .u64 (nw : Nat)) rfl ?_)
          | ((with_reducible refine ati_load (T := 23) ?_); refine wi_ldc (fun _ => trivial) rfl b6 0 rfl _ (hv.vars.row (by first | exact .head _ | exact .tail _ (.head _) | exact .tail _ (.tail _ (.head _)) | exact .tail _ (.tail _ (.tail _ (.head _))) | exact .tail _ (.tail _ (.tail _ (.tail _ (.head _)))) | exact .tail _ (.tail _ (.tail _ (.tail _ (.tail _ (.head _))))) | exact .tail _ (.tail _ (.tail _ (.tail _ (.tail _ (.tail _ (.head _)))))) | exact .tail _ (.tail _ (.tail _ (.tail _ (.tail _ (.tail _ (.tail _ (.head _))))))))) _ Try.underlying23 rfl v1 rfl ?_)
          | ((with_reducible refine ati_load (T := 63) ?_); refine wi_ldv (fun _ => trivial) rfl Bx rfl _ hbx 2 _ Try.underlying63 rfl infoTm (by decide) rfl ?_)
          | ((with_reducible refine ati_bslice ?_); refine wi_mkb (fun _ => trivial) (fun _ h => by cases h) rfl #[.int .u64 (x1 : Nat), .int .i64 x2] 63 1 1 (fun w' => (by unfold execOp; go_simp)) ?_; intro bb w2 hm2; have hn2 := hm2.made.new; replace hv := hv.bsl' (k := 2) (n := 1) (c := [.int .u64 (x1 : Nat), .int .i64 x2]) hm2 rfl rfl (by unfold maxLen; omega); clear hm2)
          | ((with_reducible refine ati_append (t := 23) ?_); refine wi_appO (fun _ => trivial) (A := [(bp, #[.pointer (some ⟨b2, 0, none⟩)]), (b6, #[v1]), (b4, (rowW 0 (List.replicate 8 (.slice none 0 0)))), (b3, #[.int .u64 (nw : Nat)]), (b2, (rowW now sv))]) (B := []) rfl rfl HO.out (by simpa using hv) (.agg #[.int .u64 0, .int .i64 0]) 16 Try.underlying23 infoTmz rfl (by decide) rfl (hv.rd Mem.z) HN1.out HP1.out HP2.out ?_; intro v2 w7 O2 hO2 hv1 hfr; have hk7 := keeps_app (A := [(bp, #[.pointer (some ⟨b2, 0, none⟩)]), (b6, #[v1]), (b4, (rowW 0 (List.replicate 8 (.slice none 0 0)))), (b3, #[.int .u64 (nw : Nat)]), (b2, (rowW now sv))]) (B := []) (by simpa using hv) hfr w'.heap.size; replace hv := hv1.dropR; clear hv1; obtain ⟨ua, un, uc, rfl, _⟩ := id hO2.slice; replace hO2 := Lib.hid hO2; simp only [List.cons_append, List.nil_append, List.append_nil] at hv)
          | ((with_reducible refine ati_store (T := 23) ?_); refine wi_stc (fun _ => trivial) rfl b6 0 rfl (.slice ua un uc) rfl _ (hv.vars.row (by first | exact .head _ | exact .tail _ (.head _) | exact .tail _ (.tail _ (.head _)) | exact .tail _ (.tail _ (.tail _ (.head _))) | exact .tail _ (.tail _ (.tail _ (.tail _ (.head _)))) | exact .tail _ (.tail _ (.tail _ (.tail _ (.tail _ (.head _))))) | exact .tail _ (.tail _ (.tail _ (.tail _ (.tail _ (.tail _ (.head _)))))) | exact .tail _ (.tail _ (.tail _ (.tail _ (.tail _ (.tail _ (.tail _ (.head _))))))))) (hv.vars.sft (by first | exact .head _ | exact .tail _ (.head _) | exact .tail _ (.tail _ (.head _)) | exact .tail _ (.tail _ (.tail _ (.head _))) | exact .tail _ (.tail _ (.tail _ (.tail _ (.head _)))) | exact .tail _ (.tail _ (.tail _ (.tail _ (.tail _ (.head _))))) | exact .tail _ (.tail _ (.tail _ (.tail _ (.tail _ (.tail _ (.head _)))))) | exact .tail _ (.tail _ (.tail _ (.tail _ (.tail _ (.tail _ (.tail _ (.head _))))))))) (by kernel_rfl) rfl (by first | decide | exact Nat.succ_pos _) ?_; intro w2 hw2; have hk8 := KeepsFrom.trans (hn2.keeps w'.heap.size) (KeepsFrom.trans hk7 (hw2.keeps (hv.vars.sft (b := b6) (by first | exact .head _ | exact .tail _ (.head _) | exact .tail _ (.tail _ (.head _)) | exact .tail _ (.tail _ (.tail _ (.head _))) | exact .tail _ (.tail _ (.tail _ (.tail _ (.head _)))) | exact .tail _ (.tail _ (.tail _ (.tail _ (.tail _ (.head _))))) | exact .tail _ (.tail _ (.tail _ (.tail _ (.tail _ (.tail _ (.head _)))))) | exact .tail _ (.tail _ (.tail _ (.tail _ (.tail _ (.tail _ (.tail _ (.head _))))))))) w'.heap.size)); (first | (replace hv := hv.set 0 rfl hw2) | (replace hv := hv.set 1 rfl hw2) | (replace hv := hv.set 2 rfl hw2) | (replace hv := hv.set 3 rfl hw2) | (replace hv := hv.set 4 rfl hw2) | (replace hv := hv.set 5 rfl hw2)); simp only [List.set, List.setIfInBounds_toArray, List.set_cons_zero, List.set_cons_succ] at hv; clear hw2))
        exact ⟨hk8, whK_of hv9 hv hk8.size (by first | exact .head _ | exact .tail _ (.head _) | exact .tail _ (.tail _ (.head _)) | exact .tail _ (.tail _ (.tail _ (.head _))) | exact .tail _ (.tail _ (.tail _ (.tail _ (.head _)))) | exact .tail _ (.tail _ (.tail _ (.tail _ (.tail _ (.head _))))) | exact .tail _ (.tail _ (.tail _ (.tail _ (.tail _ (.tail _ (.head _)))))) | exact .tail _ (.tail _ (.tail _ (.tail _ (.tail _ (.tail _ (.tail _ (.head _)))))))) (by first | exact .head _ | exact .tail _ (.head _) | exact .tail _ (.tail _ (.head _)) | exact .tail _ (.tail _ (.tail _ (.head _))) | exact .tail _ (.tail _ (.tail _ (.tail _ (.head _)))) | exact .tail _ (.tail _ (.tail _ (.tail _ (.tail _ (.head _))))) | exact .tail _ (.tail _ (.tail _ (.tail _ (.tail _ (.tail _ (.head _)))))) | exact .tail _ (.tail _ (.tail _ (.tail _ (.tail _ (.tail _ (.tail _ (.head _)))))))) (by first | exact .head _ | exact .tail _ (.head _) | exact .tail _ (.tail _ (.head _)) | exact .tail _ (.tail _ (.tail _ (.head _))) | exact .tail _ (.tail _ (.tail _ (.tail _ (.head _)))) | exact .tail _ (.tail _ (.tail _ (.tail _ (.tail _ (.head _))))) | exact .tail _ (.tail _ (.tail _ (.tail _ (.tail _ (.tail _ (.head _)))))) | exact .tail _ (.tail _ (.tail _ (.tail _ (.tail _ (.tail _ (.tail _ (.head _)))))))) (by first | exact .head _ | exact .tail _ (.head _) | exact .tail _ (.tail _ (.head _)) | exact .tail _ (.tail _ (.tail _ (.head _))) | exact .tail _ (.tail _ (.tail _ (.tail _ (.head _)))) | exact .tail _ (.tail _ (.tail _ (.tail _ (.tail _ (.head _))))) | exact .tail _ (.tail _ (.tail _ (.tail _ (.tail _ (.tail _ (.head _)))))) | exact .tail _ (.tail _ (.tail _ (.tail _ (.tail _ (.tail _ (.tail _ (.head _)))))))), _, O2, hv, by rw [HS2.out]; exact hO2.out⟩
      · have yl : decide ((x1 : Int) ≤ (nw : Int)) = false := decide_eq_false (by omega)
        have zl : decide (x1 ≤ nw) = false := decide_eq_false hle
        have HS2 : Hid (cameF nw (preT S (pre ++ [x])) = C) := Lib.hid (by rw [HST.out, if_neg hle])
        clear HST hle hCL
        gi_wp2_with (first
          | ((with_reducible refine ati_load (T := 22) ?_); refine wi_ldc (fun _ => trivial) rfl Bx 0 rfl _ hbx _ Try.underlying22 rfl (.int .u64 (x1 : Nat)) rfl ?_)
          | ((with_reducible refine ati_load (T := 22) ?_); refine wi_ldc (fun _ => trivial) rfl b3 0 rfl _ (hv.vars.row (by first | exact .head _ | exact .tail _ (.head _) | exact .tail _ (.tail _ (.head _)) | exact .tail _ (.tail _ (.tail _ (.head _))) | exact .tail _ (.tail _ (.tail _ (.tail _ (.head _)))) | exact .tail _ (.tail _ (.tail _ (.tail _ (.tail _ (.head _))))) | exact .tail _ (.tail _ (.tail _ (.tail _ (.tail _ (.tail _ (.head _)))))) | exact .tail _ (.tail _ (.tail _ (.tail _ (.tail _ (.tail _ (.tail _ (.head _))))))))) _ Try.underlying22 rfl (.int .u64 (nw : Nat)) rfl ?_))
        exact ⟨KeepsFrom.refl _ _, WhK.refl _ _ _ _, v1, O, hv, by rw [HS2.out]; exact HO.out⟩
    case done =>
      rintro D ys W hD rfl ⟨v1, O, hv, hO⟩ hK
      rw [preT_all] at hO
      have HK := Lib.hid hK
      have LD : Hid (w.heap.size ≤ D) := Lib.hid (Nat.le_trans LW.out hD)
      have hCL : (cameF nw S.flatten).length ≤ 32 := Nat.le_trans (List.length_filter_le _ _) HFN.out
      generalize hcs : cameF nw S.flatten = C at hO hCL
      obtain ⟨ca, cn, cc, rfl, hq9⟩ := id hO.slice
      clear hq9
      have HCS := Lib.hid hcs
      have HCL := Lib.hid hCL
      have HO := Lib.hid hO
      clear hcs hCL hO hK hD
      gi_wp2_with (first
        | ((with_reducible refine ati_load (T := 23) ?_); refine wi_ldc (fun _ => trivial) rfl b6 0 rfl _ (hv.vars.row (by first | exact .head _ | exact .tail _ (.head _) | exact .tail _ (.tail _ (.head _)) | exact .tail _ (.tail _ (.tail _ (.head _))) | exact .tail _ (.tail _ (.tail _ (.tail _ (.head _)))) | exact .tail _ (.tail _ (.tail _ (.tail _ (.tail _ (.head _))))) | exact .tail _ (.tail _ (.tail _ (.tail _ (.tail _ (.tail _ (.head _)))))) | exact .tail _ (.tail _ (.tail _ (.tail _ (.tail _ (.tail _ (.tail _ (.head _))))))))) _ Try.underlying23 rfl (.slice ca cn cc) rfl ?_)
        | (refine ⟨trivial, ?_⟩; gi_at_call 26; (with_reducible refine (callsIn_wide.2 (sort_own [(bp, #[.pointer (some ⟨b2, 0, none⟩)]), (b6, #[.slice ca cn cc]), (b4, (rowW 0 (List.replicate 8 (.slice none 0 0)))), (b3, #[.int .u64 (nw : Nat)]), (b2, (rowW now sv))] [] O (.slice ca cn cc) C (Nat.le_trans HCL.out (by decide)) w _ R (by simpa using hv) HO.out)).mono ?_); rintro e w1 ⟨rfl, cs, O1, hpm, hpw, hv1, hO1, hkp⟩; replace hv := hv1; simp only [List.cons_append, List.nil_append, List.append_nil] at hv; have HPM := Lib.hid hpm; have HPW := Lib.hid hpw; have HO1 := Lib.hid hO1; replace HK := Lib.hid (hkp.same D _ (Nat.zero_le _) HK.out rfl); clear hv1 hpm hpw hO1 hkp))
      have HFRC := Lib.hid (HO1.out.fr (A := [(bp, #[.pointer (some ⟨b2, 0, none⟩)]), (b6, #[.slice ca cn cc]), (b4, (rowW 0 (List.replicate 8 (.slice none 0 0)))), (b3, #[.int .u64 (nw : Nat)]), (b2, (rowW now sv))]) (B := []) (by simpa using hv))
      replace hv := HO1.out.yield (A := [(bp, #[.pointer (some ⟨b2, 0, none⟩)]), (b6, #[.slice ca cn cc]), (b4, (rowW 0 (List.replicate 8 (.slice none 0 0)))), (b3, #[.int .u64 (nw : Nat)]), (b2, (rowW now sv))]) (B := []) (by simpa using hv)
      simp only [List.append_nil] at hv
      have HRR := Lib.hid (show (2, Value.slice ca cn cc, cellsT cs) ∈ (2, Value.slice ca cn cc, cellsT cs) :: R from List.mem_cons_self ..)
      generalize hRR : (2, Value.slice ca cn cc, cellsT cs) :: R = RR at hv HRR
      have HRE := Lib.hid hRR
      have HCN := Lib.hid (len_rdT (hv.rd HRR.out))
      have HC32 : Hid (cs.length ≤ 32) := Lib.hid (by rw [HPM.out.length_eq]; exact HCL.out)
      clear HO HO1 hRR
      gi_loopw [8, 39] (fun ov kv wr => ∃ (k : Nat) (O2 : List (Nat × Array Value)), k ≤ cn ∧ kv = .int .i64 (k : Nat) ∧ Mem w wr ([(bp, #[.pointer (some ⟨b2, 0, none⟩)]), (b6, #[.slice ca cn cc]), (b4, (rowW 0 (List.replicate 8 (.slice none 0 0)))), (b3, #[.int .u64 (nw : Nat)]), (b2, (rowW now sv))] ++ O2) RR ∧ Hid (OwnL 1 ov (idsI (cs.take k)) O2) ∧ Hid (wr.heap[D]? = some (.deferred (some [])))) (fun _ kv _ => cn - (intOf kv).toNat)
      case atStart => exact ⟨0, [], Nat.zero_le _, rfl, by simpa using hv, Lib.hid (OwnL.nil 1), HK⟩
      case round =>
        clear hv HK
        obtain ⟨k, O2, hk0, rfl, hv, HO, HK⟩ := hrel
        obtain ⟨oa, on, oc, rfl, hon⟩ := id HO.out.slice
        by_cases hk : k < cn
        · have c1 : (k : Int) < (cn : Int) := by omega
          have hkl : k < cs.length := by rw [HCN.out]; exact hk
          obtain ⟨⟨x1, x2⟩, hx⟩ : ∃ x, cs[k] = x := ⟨_, rfl⟩
          have HX : Hid (((cellsT cs).drop (k * 2)).take 2 = [.int .u64 (x1 : Nat), .int .i64 x2]) := Lib.hid (by rw [cellsT_part cs k hkl, hx])
          have HS2 : Hid (idsI (cs.take (k + 1)) = idsI (cs.take k) ++ [.int .i64 x2]) := Lib.hid (by rw [List.take_succ_eq_append_getElem hkl, hx]; simp [idsI])
          obtain ⟨sb, so, _, _, e, hq8⟩ := (hv.rd HRR.out).some (by rw [cellsT_len]; omega)
          clear hq8
          cases e
          have HN1 : Hid (∀ z ∈ ([.int .i64 x2] : List Value), z.oneCell' = true) := Lib.hid (fun z hz => by rw [List.mem_singleton.1 hz]; rfl)
          have hidl : (idsI (cs.take k)).length ≤ 32 := by rw [idsI_len, List.length_take]; have := HC32.out; omega
          have HP1 : Hid (((idsI (cs.take k)).length + ([.int .i64 x2] : List Value).length) / 1 ≤ maxLen) := Lib.hid (by simp only [List.length_cons, List.length_nil]; unfold maxLen; omega)
          have HP2 : Hid (((idsI (cs.take k)).length + ([.int .i64 x2] : List Value).length) / 1 * 8 ≤ 140737488355328) := Lib.hid (by simp only [List.length_cons, List.length_nil]; omega)
          have HKN := Lib.hid hk
          have hkb : (k : Int) ≤ 1000 := by have := HC32.out; have := HCN.out; omega
          clear hkl hx hk0 hk hidl hon
          gi_wp2_with (first
            | ((with_reducible refine ati_load (T := 63) ?_); refine wi_rdv (fun _ => trivial) rfl (hv.rd HRR.out) (k * 2) rfl 2 _ Try.underlying63 rfl infoTm (by decide) #[.int .u64 (x1 : Nat), .int .i64 x2] HX.out rfl ?_)
            | ((with_reducible refine ati_alloc (T := 63) (dst := some 10) ?_); refine wi_newb (fun _ => trivial) (fun _ h => by cases h) rfl #[.int .u64 0, .int .i64 0] 63 (fun _ => rfl) ?_; intro b10 w2 hm2)
            | ((with_reducible refine ati_store (T := 63) ?_); refine wi_stv (fun _ => trivial) rfl b10 rfl #[.int .u64 (x1 : Nat), .int .i64 x2] rfl _ hm2.row hm2.soft 2 infoTm rfl rfl (by simp [Value.oneCell']) ?_; intro w3 hw3; have hm3 := hm2.filled hw3; have hnw := hm3.made.new; replace HK := Lib.hid ((hnw.keeps 0).same D _ (Nat.zero_le _) HK.out rfl); replace hv := hv.madeAt hm3; clear hm2 hw3 hm3 hnw)
            | ((with_reducible refine ati_load (T := 3) ?_); refine wi_ldc (fun _ => trivial) rfl b10 1 rfl _ (hv.vars.row (by first | exact .head _ | exact .tail _ (.head _) | exact .tail _ (.tail _ (.head _)) | exact .tail _ (.tail _ (.tail _ (.head _))) | exact .tail _ (.tail _ (.tail _ (.tail _ (.head _)))) | exact .tail _ (.tail _ (.tail _ (.tail _ (.tail _ (.head _))))) | exact .tail _ (.tail _ (.tail _ (.tail _ (.tail _ (.tail _ (.head _)))))) | exact .tail _ (.tail _ (.tail _ (.tail _ (.tail _ (.tail _ (.tail _ (.head _))))))))) _ Try.underlying3 rfl (.int .i64 x2) rfl ?_)
            | ((with_reducible refine ati_bslice ?_); refine wi_mkb (fun _ => trivial) (fun _ h => by cases h) rfl #[.int .i64 x2] 3 1 1 (fun w' => (by unfold execOp; go_simp)) ?_; intro bb w2 hm2; have hn2 := hm2.made.new; replace HK := Lib.hid ((hn2.keeps 0).same D _ (Nat.zero_le _) HK.out rfl); replace hv := hv.bsl' (k := 1) (n := 1) (c := [.int .i64 x2]) hm2 rfl rfl (by unfold maxLen; omega); clear hm2 hn2)
            | ((with_reducible refine ati_append (t := 31) ?_); refine wi_appO (fun _ => trivial) (A := ((b10, #[.int .u64 (x1 : Nat), .int .i64 x2]) :: [(bp, #[.pointer (some ⟨b2, 0, none⟩)]), (b6, #[.slice (some ⟨sb, so, none⟩) cn cc]), (b4, (rowW 0 (List.replicate 8 (.slice none 0 0)))), (b3, #[.int .u64 (nw : Nat)]), (b2, (rowW now sv))])) (B := []) rfl rfl HO.out (by simpa using hv) (.int .i64 0) 8 Try.underlying31 infoIz rfl (by decide) rfl (hv.rd Mem.z) HN1.out HP1.out HP2.out ?_; intro v2 w7 O3 hO3 hv1 hfr; have hk7 := keeps_app (A := ((b10, #[.int .u64 (x1 : Nat), .int .i64 x2]) :: [(bp, #[.pointer (some ⟨b2, 0, none⟩)]), (b6, #[.slice (some ⟨sb, so, none⟩) cn cc]), (b4, (rowW 0 (List.replicate 8 (.slice none 0 0)))), (b3, #[.int .u64 (nw : Nat)]), (b2, (rowW now sv))])) (B := []) (by simpa using hv) hfr 0; replace HK := Lib.hid (hk7.same D _ (Nat.zero_le _) HK.out rfl); replace hv := hv1.dropR; clear hv1 hk7; obtain ⟨ua, un, uc, rfl, _⟩ := id hO3.slice; replace hO3 := Lib.hid hO3; simp only [List.cons_append, List.nil_append, List.append_nil] at hv))
          have hkn := HKN.out
          go_roundw
          case rel => exact ⟨k + 1, O3, by omega, by go_num, by simpa using hv.keep (List.sublist_cons_self _ _), Lib.hid (by rw [HS2.out]; exact hO3.out), HK⟩
          case measure => simp [intOf]; omega
        · have c1 : ¬ (k : Int) < (cn : Int) := by omega
          have hkc : k = cn := by omega
          have HO9 : Hid (OwnL 1 (.slice oa on oc) (idsI cs) O2) := Lib.hid (by have := HO.out; rwa [List.take_of_length_le (by rw [HCN.out]; omega)] at this)
          have HFRI := Lib.hid (HO9.out.fr (A := [(bp, #[.pointer (some ⟨b2, 0, none⟩)]), (b6, #[.slice ca cn cc]), (b4, (rowW 0 (List.replicate 8 (.slice none 0 0)))), (b3, #[.int .u64 (nw : Nat)]), (b2, (rowW now sv))]) (B := []) (by simpa using hv))
          replace hv := HO9.out.yield (A := [(bp, #[.pointer (some ⟨b2, 0, none⟩)]), (b6, #[.slice ca cn cc]), (b4, (rowW 0 (List.replicate 8 (.slice none 0 0)))), (b3, #[.int .u64 (nw : Nat)]), (b2, (rowW now sv))]) (B := []) (by simpa using hv)
          simp only [List.append_nil] at hv
          have HIX : Hid (InW ((1, Value.slice oa on oc, idsI cs) :: RR) sv S) := Lib.hid (by rw [← HRE.out]; exact (HI.out.cons _).cons _)
          clear HO HO9 hk hk0 hon hkc
          gi_wp2_with (first
            | ((with_reducible refine ati_load (T := 26) ?_); refine wi_ldv (fun _ => trivial) rfl b2 rfl _ (hv.vars.row (by first | exact .head _ | exact .tail _ (.head _) | exact .tail _ (.tail _ (.head _)) | exact .tail _ (.tail _ (.tail _ (.head _))) | exact .tail _ (.tail _ (.tail _ (.tail _ (.head _)))) | exact .tail _ (.tail _ (.tail _ (.tail _ (.tail _ (.head _))))) | exact .tail _ (.tail _ (.tail _ (.tail _ (.tail _ (.tail _ (.head _)))))) | exact .tail _ (.tail _ (.tail _ (.tail _ (.tail _ (.tail _ (.tail _ (.head _))))))))) 9 _ Try.underlying26 rfl infoWh (by decide) HSZ.out ?_)
            | (refine ⟨trivial, ?_⟩; gi_at_call 28; go_must ((refine (callsIn_wide.2 (without_any now sv S (fun t => decide (t.1 ≤ nw)) 29 #[.pointer (some ⟨b3, 0, none⟩)] (enters_of Try.func29 (by kernel_rfl) rfl) HLE.out _ _ [] ((1, .slice oa on oc, idsI cs) :: RR) (Mem.all fun x hx => (hv.rds x hx).1) HIX.out (fun w1 h1 y1 y2 => goes_any b3 nw y1 y2 w1 ((hv.vars.new h1.below).row (b := b3) (by first | exact .head _ | exact .tail _ (.head _) | exact .tail _ (.tail _ (.head _)) | exact .tail _ (.tail _ (.tail _ (.head _))) | exact .tail _ (.tail _ (.tail _ (.tail _ (.head _)))) | exact .tail _ (.tail _ (.tail _ (.tail _ (.tail _ (.head _))))) | exact .tail _ (.tail _ (.tail _ (.tail _ (.tail _ (.tail _ (.head _)))))) | exact .tail _ (.tail _ (.tail _ (.tail _ (.tail _ (.tail _ (.tail _ (.head _)))))))))))).mono ?_); rintro e w1 ⟨sv2, R2, rfl, hm2, hf2, hi2⟩; have hn2 : New _ w1 := hm2.vars.below; have HF2 : Hid (AllF w R2) := Lib.hid (fun x hx => frb_mono (hf2 x hx) hv.below.size); have HI2 := Lib.hid hi2; replace HK := Lib.hid ((hn2.keeps 0).same D _ (Nat.zero_le _) HK.out rfl); replace hv := hv.lift hn2 (R1 := R2) (fun x hx => ⟨(hm2.rds x (List.mem_append_left _ hx)).1, hf2 x hx⟩); have HONE2 : Hid (∀ z, (rowW z sv2).all (·.oneCell') = true) := Lib.hid (fun z => rowW_one hv HI2.out); clear hm2 hf2 hi2 hn2))
            | ((with_reducible refine ati_store (T := 26) ?_); refine wi_stv (fun _ => trivial) rfl b2 rfl (rowW now sv2) rfl _ (hv.vars.row (b := b2) (by first | exact .head _ | exact .tail _ (.head _) | exact .tail _ (.tail _ (.head _)) | exact .tail _ (.tail _ (.tail _ (.head _))) | exact .tail _ (.tail _ (.tail _ (.tail _ (.head _)))) | exact .tail _ (.tail _ (.tail _ (.tail _ (.tail _ (.head _))))) | exact .tail _ (.tail _ (.tail _ (.tail _ (.tail _ (.tail _ (.head _)))))) | exact .tail _ (.tail _ (.tail _ (.tail _ (.tail _ (.tail _ (.tail _ (.head _))))))))) (hv.vars.sft (b := b2) (by first | exact .head _ | exact .tail _ (.head _) | exact .tail _ (.tail _ (.head _)) | exact .tail _ (.tail _ (.tail _ (.head _))) | exact .tail _ (.tail _ (.tail _ (.tail _ (.head _)))) | exact .tail _ (.tail _ (.tail _ (.tail _ (.tail _ (.head _))))) | exact .tail _ (.tail _ (.tail _ (.tail _ (.tail _ (.tail _ (.head _)))))) | exact .tail _ (.tail _ (.tail _ (.tail _ (.tail _ (.tail _ (.tail _ (.head _))))))))) 9 infoWh (rowW_size HI2.out.1) HSZ.out (HONE2.out now) ?_; intro w2 hw2; replace HK := Lib.hid (wrote_D hw2 (hv.vars.sft (b := b2) (by first | exact .head _ | exact .tail _ (.head _) | exact .tail _ (.tail _ (.head _)) | exact .tail _ (.tail _ (.tail _ (.head _))) | exact .tail _ (.tail _ (.tail _ (.tail _ (.head _)))) | exact .tail _ (.tail _ (.tail _ (.tail _ (.tail _ (.head _))))) | exact .tail _ (.tail _ (.tail _ (.tail _ (.tail _ (.tail _ (.head _)))))) | exact .tail _ (.tail _ (.tail _ (.tail _ (.tail _ (.tail _ (.tail _ (.head _))))))))) HK.out); replace hv := hv.set 4 rfl hw2; simp only [List.set] at hv; clear hw2)
            | ((with_reducible refine ati_load (T := 22) ?_); refine wi_ldc (fun _ => trivial) rfl b3 0 rfl _ (hv.vars.row (by first | exact .head _ | exact .tail _ (.head _) | exact .tail _ (.tail _ (.head _)) | exact .tail _ (.tail _ (.tail _ (.head _))) | exact .tail _ (.tail _ (.tail _ (.tail _ (.head _)))) | exact .tail _ (.tail _ (.tail _ (.tail _ (.tail _ (.head _))))) | exact .tail _ (.tail _ (.tail _ (.tail _ (.tail _ (.tail _ (.head _)))))) | exact .tail _ (.tail _ (.tail _ (.tail _ (.tail _ (.tail _ (.tail _ (.head _))))))))) _ Try.underlying22 rfl (.int .u64 (nw : Nat)) rfl ?_)
            | ((with_reducible refine ati_store (T := 22) ?_); refine wi_stc (fun _ => trivial) rfl b2 0 rfl (.int .u64 (nw : Nat)) rfl _ (hv.vars.row (b := b2) (by first | exact .head _ | exact .tail _ (.head _) | exact .tail _ (.tail _ (.head _)) | exact .tail _ (.tail _ (.tail _ (.head _))) | exact .tail _ (.tail _ (.tail _ (.tail _ (.head _)))) | exact .tail _ (.tail _ (.tail _ (.tail _ (.tail _ (.head _))))) | exact .tail _ (.tail _ (.tail _ (.tail _ (.tail _ (.tail _ (.head _)))))) | exact .tail _ (.tail _ (.tail _ (.tail _ (.tail _ (.tail _ (.tail _ (.head _))))))))) (hv.vars.sft (b := b2) (by first | exact .head _ | exact .tail _ (.head _) | exact .tail _ (.tail _ (.head _)) | exact .tail _ (.tail _ (.tail _ (.head _))) | exact .tail _ (.tail _ (.tail _ (.tail _ (.head _)))) | exact .tail _ (.tail _ (.tail _ (.tail _ (.tail _ (.head _))))) | exact .tail _ (.tail _ (.tail _ (.tail _ (.tail _ (.tail _ (.head _)))))) | exact .tail _ (.tail _ (.tail _ (.tail _ (.tail _ (.tail _ (.tail _ (.head _))))))))) (by kernel_rfl) rfl (by rw [rowW_size HI2.out.1]; decide) ?_; intro w2 hw2; replace HK := Lib.hid (wrote_D hw2 (hv.vars.sft (b := b2) (by first | exact .head _ | exact .tail _ (.head _) | exact .tail _ (.tail _ (.head _)) | exact .tail _ (.tail _ (.tail _ (.head _))) | exact .tail _ (.tail _ (.tail _ (.tail _ (.head _)))) | exact .tail _ (.tail _ (.tail _ (.tail _ (.tail _ (.head _))))) | exact .tail _ (.tail _ (.tail _ (.tail _ (.tail _ (.tail _ (.head _)))))) | exact .tail _ (.tail _ (.tail _ (.tail _ (.tail _ (.tail _ (.tail _ (.head _))))))))) HK.out); replace hv := hv.set 4 rfl hw2; simp only [List.set, rowW_now] at hv; clear hw2)
            | ((with_reducible refine ati_load (T := 26) ?_); refine wi_ldv (fun _ => trivial) rfl b2 rfl _ (hv.vars.row (by first | exact .head _ | exact .tail _ (.head _) | exact .tail _ (.tail _ (.head _)) | exact .tail _ (.tail _ (.tail _ (.head _))) | exact .tail _ (.tail _ (.tail _ (.tail _ (.head _)))) | exact .tail _ (.tail _ (.tail _ (.tail _ (.tail _ (.head _))))) | exact .tail _ (.tail _ (.tail _ (.tail _ (.tail _ (.tail _ (.head _)))))) | exact .tail _ (.tail _ (.tail _ (.tail _ (.tail _ (.tail _ (.tail _ (.head _))))))))) 9 _ Try.underlying26 rfl infoWh (by decide) (rowW_size HI2.out.1) ?_)
            | ((with_reducible refine ati_store (T := 26) ?_); refine wi_stv (fun _ => trivial) rfl b4 rfl (rowW nw sv2) rfl _ (hv.vars.row (b := b4) (by first | exact .head _ | exact .tail _ (.head _) | exact .tail _ (.tail _ (.head _)) | exact .tail _ (.tail _ (.tail _ (.head _))) | exact .tail _ (.tail _ (.tail _ (.tail _ (.head _)))) | exact .tail _ (.tail _ (.tail _ (.tail _ (.tail _ (.head _))))) | exact .tail _ (.tail _ (.tail _ (.tail _ (.tail _ (.tail _ (.head _)))))) | exact .tail _ (.tail _ (.tail _ (.tail _ (.tail _ (.tail _ (.tail _ (.head _))))))))) (hv.vars.sft (b := b4) (by first | exact .head _ | exact .tail _ (.head _) | exact .tail _ (.tail _ (.head _)) | exact .tail _ (.tail _ (.tail _ (.head _))) | exact .tail _ (.tail _ (.tail _ (.tail _ (.head _)))) | exact .tail _ (.tail _ (.tail _ (.tail _ (.tail _ (.head _))))) | exact .tail _ (.tail _ (.tail _ (.tail _ (.tail _ (.tail _ (.head _)))))) | exact .tail _ (.tail _ (.tail _ (.tail _ (.tail _ (.tail _ (.tail _ (.head _))))))))) 9 infoWh (rowW_size HI2.out.1) rfl (HONE2.out nw) ?_; intro w2 hw2; replace HK := Lib.hid (wrote_D hw2 (hv.vars.sft (b := b4) (by first | exact .head _ | exact .tail _ (.head _) | exact .tail _ (.tail _ (.head _)) | exact .tail _ (.tail _ (.tail _ (.head _))) | exact .tail _ (.tail _ (.tail _ (.tail _ (.head _)))) | exact .tail _ (.tail _ (.tail _ (.tail _ (.tail _ (.head _))))) | exact .tail _ (.tail _ (.tail _ (.tail _ (.tail _ (.tail _ (.head _)))))) | exact .tail _ (.tail _ (.tail _ (.tail _ (.tail _ (.tail _ (.tail _ (.head _))))))))) HK.out); replace hv := hv.set 2 rfl hw2; simp only [List.set] at hv; clear hw2))
          refine ⟨by simp, .inl ⟨_, _, rfl, run_takeDeferred HK.out, ?_⟩⟩
          have hT := hv.turn (grownBy_putObj' _ D (.deferred none)) (fun r e => by cases e; exact ⟨LD.out, _, HK.out, rfl⟩)
          refine ⟨_, res_cell2 rfl rfl (read_row _ b4 26 _ (hT.vars.row (b := b4) (by first | exact .head _ | exact .tail _ (.head _) | exact .tail _ (.tail _ (.head _)) | exact .tail _ (.tail _ (.tail _ (.head _))) | exact .tail _ (.tail _ (.tail _ (.tail _ (.head _)))) | exact .tail _ (.tail _ (.tail _ (.tail _ (.tail _ (.head _))))) | exact .tail _ (.tail _ (.tail _ (.tail _ (.tail _ (.tail _ (.head _)))))) | exact .tail _ (.tail _ (.tail _ (.tail _ (.tail _ (.tail _ (.tail _ (.head _))))))))) 9 _ Try.underlying26 rfl infoWh (by decide) (rowW_size HI2.out.1)) rfl, sv2, (1, Value.slice oa on oc, idsI cs) :: (R2 ++ [(2, Value.slice ca cn cc, cellsT cs)]), .slice oa on oc, cs, rfl, hT.below, fun x hx => (hT.rds x ?_).1, fun x hx => ?_, HI2.out.mono ?_, List.mem_cons_self .., by rw [HCS.out]; exact HPM.out, HPW.out⟩
          · rw [← HRE.out]
            simp only [List.mem_append, List.mem_cons, List.not_mem_nil, or_false] at hx ⊢
            rcases hx with h | h | h <;> simp [h]
          · simp only [List.mem_append, List.mem_cons, List.not_mem_nil, or_false] at hx
            rcases hx with rfl | h | rfl
            · exact HFRI.out
            · exact HF2.out x h
            · exact HFRC.out
          · intro x hx
            rw [← HRE.out] at hx
            simp only [List.mem_append, List.mem_cons, List.not_mem_nil, or_false] at hx ⊢
            rcases hx with h | h | h | h <;> simp [h]
    case stop =>
      rintro D cc pre W _ _ h _
      exact h.elim
set_option maxRecDepth 100000 in
set_option maxHeartbeats 4000000 in
theorem Advance_no (now nw : Nat) (sv : List Value) (S : List (List Tm)) (w : World) (R : List (Nat × Value × List Value)) (hr0 : ∀ x ∈ R, Rd w x.1 x.2.1 x.2.2) (hi : InW R sv S) (h : nw ≤ now) :
    Calls Try.prog 10 #[.agg (rowW now sv), .int .u64 (nw : Nat)] w fun e w' => e = .returned (.tuple #[.agg (rowW now sv), .slice none 0 0]) ∧ New w w' := by
  have hv := Mem.all hr0
  have HSZ : Hid ((rowW now sv).size = 9) := Lib.hid (rowW_size hi.1)
  have HONE : Hid ((rowW now sv).all (·.oneCell') = true) := Lib.hid (rowW_one hv hi)
  have HNOW : Hid (((rowW now sv) : Array Value)[0]? = some (.int .u64 (now : Nat))) := Lib.hid rfl
  have yl : decide ((nw : Int) ≤ (now : Int)) = true := decide_eq_true (by omega)
  have zl : decide (nw ≤ now) = true := decide_eq_true h
  clear hr0 hi h
  go_enter Try.func10, Try.ntmps10
  go_wp2_with (first
    | ((with_reducible refine at_box (T := 26) (dst := some 2) ?_); refine wl_newb rfl (rowW now sv) 26 (fun _ => rfl) ?_; intro b2 w2 hm2; replace hv := hv.madeAt hm2; clear hm2)
    | ((with_reducible refine at_box (T := 22) (dst := some 3) ?_); refine wl_newb rfl #[.int .u64 (nw : Nat)] 22 (fun _ => rfl) ?_; intro b3 w2 hm2; replace hv := hv.madeAt hm2; clear hm2)
    | ((with_reducible refine at_alloc (T := 26) (dst := some 4) ?_); refine wl_newb rfl (rowW 0 (List.replicate 8 (.slice none 0 0))) 26 (fun _ => rfl) ?_; intro b4 w2 hm2; replace hv := hv.madeAt hm2; clear hm2)
    | ((with_reducible refine at_load (T := 22) ?_); refine wl_ldc rfl b3 0 rfl _ (hv.vars.row (by first | exact .head _ | exact .tail _ (.head _) | exact .tail _ (.tail _ (.head _)) | exact .tail _ (.tail _ (.tail _ (.head _))) | exact .tail _ (.tail _ (.tail _ (.tail _ (.head _)))) | exact .tail _ (.tail _ (.tail _ (.tail _ (.tail _ (.head _))))) | exact .tail _ (.tail _ (.tail _ (.tail _ (.tail _ (.tail _ (.head _)))))) | exact .tail _ (.tail _ (.tail _ (.tail _ (.tail _ (.tail _ (.tail _ (.head _))))))))) _ Try.underlying22 rfl (.int .u64 (nw : Nat)) rfl ?_)
    | ((with_reducible refine at_load (T := 22) ?_); refine wl_ldc rfl b2 0 rfl _ (hv.vars.row (by first | exact .head _ | exact .tail _ (.head _) | exact .tail _ (.tail _ (.head _)) | exact .tail _ (.tail _ (.tail _ (.head _))) | exact .tail _ (.tail _ (.tail _ (.tail _ (.head _)))) | exact .tail _ (.tail _ (.tail _ (.tail _ (.tail _ (.head _))))) | exact .tail _ (.tail _ (.tail _ (.tail _ (.tail _ (.tail _ (.head _)))))) | exact .tail _ (.tail _ (.tail _ (.tail _ (.tail _ (.tail _ (.tail _ (.head _))))))))) _ Try.underlying22 rfl (.int .u64 (now : Nat)) HNOW.out ?_)
    | ((with_reducible refine at_load (T := 26) ?_); refine wl_ldv rfl b2 rfl _ (hv.vars.row (by first | exact .head _ | exact .tail _ (.head _) | exact .tail _ (.tail _ (.head _)) | exact .tail _ (.tail _ (.tail _ (.head _))) | exact .tail _ (.tail _ (.tail _ (.tail _ (.head _)))) | exact .tail _ (.tail _ (.tail _ (.tail _ (.tail _ (.head _))))) | exact .tail _ (.tail _ (.tail _ (.tail _ (.tail _ (.tail _ (.head _)))))) | exact .tail _ (.tail _ (.tail _ (.tail _ (.tail _ (.tail _ (.tail _ (.head _))))))))) 9 _ Try.underlying26 rfl infoWh (by decide) HSZ.out ?_)
    | ((with_reducible refine at_store (T := 26) ?_); refine wl_stv rfl b4 rfl _ rfl _ (hv.vars.row (by first | exact .head _ | exact .tail _ (.head _) | exact .tail _ (.tail _ (.head _)) | exact .tail _ (.tail _ (.tail _ (.head _))) | exact .tail _ (.tail _ (.tail _ (.tail _ (.head _)))) | exact .tail _ (.tail _ (.tail _ (.tail _ (.tail _ (.head _))))) | exact .tail _ (.tail _ (.tail _ (.tail _ (.tail _ (.tail _ (.head _)))))) | exact .tail _ (.tail _ (.tail _ (.tail _ (.tail _ (.tail _ (.tail _ (.head _))))))))) (hv.vars.sft (by first | exact .head _ | exact .tail _ (.head _) | exact .tail _ (.tail _ (.head _)) | exact .tail _ (.tail _ (.tail _ (.head _))) | exact .tail _ (.tail _ (.tail _ (.tail _ (.head _)))) | exact .tail _ (.tail _ (.tail _ (.tail _ (.tail _ (.head _))))) | exact .tail _ (.tail _ (.tail _ (.tail _ (.tail _ (.tail _ (.head _)))))) | exact .tail _ (.tail _ (.tail _ (.tail _ (.tail _ (.tail _ (.tail _ (.head _))))))))) 9 infoWh HSZ.out rfl HONE.out ?_; intro w2 hw2; (first | (replace hv := hv.set 0 rfl hw2) | (replace hv := hv.set 1 rfl hw2) | (replace hv := hv.set 2 rfl hw2) | (replace hv := hv.set 3 rfl hw2)); clear hw2; simp only [List.set] at hv))
  try simp only [Exit.inBlock, Exit.then]
  exact ret_cell2 (v := .agg (rowW now sv)) (v1 := .slice none 0 0) rfl rfl (read_row _ b4 26 _ (hv.vars.row (b := b4) (by first | exact .head _ | exact .tail _ (.head _) | exact .tail _ (.tail _ (.head _)) | exact .tail _ (.tail _ (.tail _ (.head _))) | exact .tail _ (.tail _ (.tail _ (.tail _ (.head _)))) | exact .tail _ (.tail _ (.tail _ (.tail _ (.tail _ (.head _))))) | exact .tail _ (.tail _ (.tail _ (.tail _ (.tail _ (.tail _ (.head _)))))) | exact .tail _ (.tail _ (.tail _ (.tail _ (.tail _ (.tail _ (.tail _ (.head _))))))))) 9 _ Try.underlying26 rfl infoWh (by decide) HSZ.out) rfl rfl ⟨rfl, hv.below⟩
theorem Advance_yes (now nw : Nat) (sv : List Value) (S : List (List Tm)) (hgd : ∀ l ∈ S, ∀ t ∈ l, (Lit.int .i64 t.2).wf = true) (hlen : ∀ l ∈ S, l.length ≤ 1000) (w : World) (R : List (Nat × Value × List Value)) (hr0 : ∀ x ∈ R, Rd w x.1 x.2.1 x.2.2) (hi : InW R sv S) (hb : advB now nw S = true) : Calls Try.prog 10 #[.agg (rowW now sv), .int .u64 (nw : Nat)] w (AdvOk now nw sv S R w) := by
  unfold advB at hb
  simp only [Bool.and_eq_true, decide_eq_true_eq] at hb
  exact callsIn_wide.1 (Adv_ok now nw sv S hgd hlen w R hr0 hi hb.2 hb.1.1 hb.1.2)
end Go.Proofs.Ytfblognifnnadaa
