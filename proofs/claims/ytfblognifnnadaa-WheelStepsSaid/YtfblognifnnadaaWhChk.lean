/-
  Which wheels may be: Check.
-/
import Derived.Test.YtfblognifnnadaaWhIter
import Derived.Test.YtfblognifnnadaaWhSlot
import Derived.Test.YtfblognifnnadaaIds
import Derived.Deep.DeepMust
import Derived.Test.YtfblognifnnadaaOpen
set_option linter.unusedVariables false
set_option linter.unusedSimpArgs false
namespace Go.Proofs.Wh
open Go Go.RowKit
theorem whK_of {w W W' : World} {L L' : List (Nat × Array Value)} {R R' : List (Nat × Value × List Value)} {bp bw : Nat} {c1 c2 : Array Value} (h : Mem w W L R) (h' : Mem w W' L' R') (hs : W.heap.size ≤ W'.heap.size) (m1 : (bp, c1) ∈ L) (m2 : (bw, c2) ∈ L) (m1' : (bp, c1) ∈ L') (m2' : (bw, c2) ∈ L') : WhK w.heap.size bp bw W W' :=
  ⟨below_between h.below h'.below hs, (h'.vars.row m1').trans (h.vars.row m1).symm, (h'.vars.row m2').trans (h.vars.row m2).symm⟩
theorem itS_of {w W : World} {L : List (Nat × Array Value)} {R : List (Nat × Value × List Value)} {bp bw now : Nat} {sv : List Value} {S : List (List Tm)} (h : Mem w W L R) (h0 : ∀ x ∈ R, Rd w x.1 x.2.1 x.2.2) (m1 : (bp, #[.pointer (some ⟨bw, 0, none⟩)]) ∈ L) (m2 : (bw, rowW now sv) ∈ L) (hi : InW R sv S) : ItS w.heap.size bp bw sv S W where
  p := by rw [h.vars.row m1]; rfl
  r := fun i v hv => by rw [h.vars.row m2]; exact rowW_get hv
  s := fun i v l hv hl => ⟨h.rd (hi.2.2 i v l hv hl), fun hc b o n cap e => by
    have h1 := h0 _ (hi.2.2 i v l hv hl)
    simp only at h1
    rw [e] at h1
    exact h1.lt hc⟩
theorem zip_one (p : Tmp) (v : Value) (A : Array Value) : ((#[p] : Array Tmp).zip #[v]).foldl (fun t (x : Tmp × Value) => t.setIfInBounds x.1 x.2) A = A.setIfInBounds p v := by simp
theorem wrote_D {w w' : World} {b D : Nat} {c : Array Value} (h : Wrote w w' b c) (hs : w.soft b = true) (hD : w.heap[D]? = some (.deferred (some []))) : w'.heap[D]? = some (.deferred (some [])) := (h.keeps hs 0).same D _ (Nat.zero_le _) hD rfl
theorem res_cell {P : Program} {fn : Func} {tmps : Array Value} {w : World} {p : Tmp} {ty : TypeId} {ad : Addr} {v : Value} (h : fn.results = #[.cell p ty]) (hp : tmps.getD p undef = .pointer (some ad)) (hl : (loadVar ty ad).run P w = .ok v w) : (results fn tmps).run P w = .ok v w := by
  have hp' : tmps[p]?.getD undef = .pointer (some ad) := by simpa using hp
  simp [results, h, hp', asAddr, hl]
/-- The IDs of what came. -/
def idsF (S : List (List Tm)) (pre : List (Fin S.flatten.length)) : List Int := pre.map fun x => (S.flatten[x.1]).2
theorem idsF_snoc (S : List (List Tm)) (pre : List (Fin S.flatten.length)) (x : Fin S.flatten.length) : idsF S (pre ++ [x]) = idsF S pre ++ [(S.flatten[x.1]).2] := by simp [idsF]
theorem idsF_fst (S : List (List Tm)) (k : Nat) : idsF S (fstN S.flatten.length k) = (S.flatten.take k).map (·.2) := by
  unfold idsF fstN
  apply List.ext_getElem?
  intro i
  simp only [List.getElem?_map, List.getElem?_take]
  split
  · by_cases hi : i < S.flatten.length
    · rw [List.getElem?_eq_getElem (by simpa using hi), List.getElem?_eq_getElem hi]
      simp
    · rw [List.getElem?_eq_none (by simpa using hi), List.getElem?_eq_none (by omega)]
      rfl
  · rfl
theorem idsB_nodup {l : List Tm} : idsB l = true ↔ (l.map (·.2)).Nodup := by
  rw [idsB_iff, List.Nodup, List.pairwise_map]
  constructor
  · exact fun h => h.imp fun g e => g e.symm
  · exact fun h => h.imp fun g e => g e.symm
theorem bad_chk {now : Nat} {S : List (List Tm)} {k : Nat} (hk : k ≤ S.flatten.length) (h : ¬ (idsF S (fstN S.flatten.length k)).Nodup ∨ 32 < (fstN S.flatten.length k).length) : chkW now S = false := by
  cases hc : chkW now S with
  | false => rfl
  | true =>
    unfold chkW at hc
    simp only [Bool.and_eq_true, decide_eq_true_eq] at hc
    obtain ⟨⟨⟨h1, h2⟩, h3⟩, h4⟩ := hc
    rcases h with h | h
    · rw [idsF_fst] at h
      exact (h ((idsB_nodup.1 h4).sublist ((List.take_sublist _ _).map _))).elim
    · rw [fstN_len hk] at h
      omega
end Go.Proofs.Wh
namespace Go.Proofs.Ytfblognifnnadaa
open Go.Proofs.Wh Go.RowKit Go.Shelf
attribute [local go_sem] Oper.semAt_some
set_option maxRecDepth 100000 in
set_option maxHeartbeats 4000000 in
theorem Check_ok (now : Nat) (sv : List Value) (S : List (List Tm)) (hgd : ∀ l ∈ S, ∀ t ∈ l, (Lit.int .i64 t.2).wf = true) (hlen : ∀ l ∈ S, l.length ≤ 1000) (w : World) (R : List (Nat × Value × List Value)) (hr0 : ∀ x ∈ R, Rd w x.1 x.2.1 x.2.2) (hi : InW R sv S) (hm : ¬ 1099511627776 < now) :
    CallsIn Fence.wide 9 Try.prog 13 #[.agg (rowW now sv)] w fun e w' => e = .returned (.bool (chkW now S)) ∧ New w w' := by
  have hv := Mem.all hr0
  have HR0 := Lib.hid hr0
  have HI := Lib.hid hi
  have HLE := Lib.hid hlen
  have HGD := Lib.hid hgd
  have HSZ : Hid ((rowW now sv).size = 9) := Lib.hid (by unfold rowW; simp only [List.size_toArray, List.length_cons]; rw [hi.1])
  obtain ⟨c, hc⟩ : ∃ c, chkW now S = c := ⟨_, rfl⟩
  rw [hc]
  have HC := Lib.hid hc
  clear hi hr0 hc hlen hgd
  refine callsIn_of_wp_marks Try.func13 rfl trivial ?_ rfl
  simp only [Try.ntmps13, List.size_toArray, List.length_cons, List.length_nil, Nat.reduceAdd, Nat.reduceSub, Array.replicate_succ, Array.replicate_zero, List.push_toArray, List.append_toArray, List.nil_append, List.cons_append]
  · skip
    have y1 : decide ((1099511627776 : Int) < (now : Int)) = false := decide_eq_false (by omega)
    have y1n : ¬ (1099511627776 : Int) < (now : Int) := by omega
    have HNM : Hid (now ≤ MaxT) := Lib.hid (by unfold MaxT; omega)
    clear hm
    gi_wp2_with (first
      | ((with_reducible refine ati_box (T := 26) (dst := some 1) ?_); refine wi_newb (fun _ => trivial) (fun _ h => by cases h) rfl (rowW now sv) 26 (fun _ => rfl) ?_; intro b1 w2 hm2; replace hv := hv.madeAt hm2; clear hm2)
      | ((with_reducible refine ati_alloc (T := 4) (dst := some 2) ?_); refine wi_newb (fun _ => trivial) (fun _ h => by cases h) rfl #[.bool false] 4 (fun _ => rfl) ?_; intro b2 w2 hm2; replace hv := hv.madeAt hm2; clear hm2)
      | ((with_reducible refine ati_load (T := 22) ?_); refine wi_ldc (fun _ => trivial) rfl b1 0 rfl _ (hv.vars.row (by first | exact .head _ | exact .tail _ (.head _) | exact .tail _ (.tail _ (.head _)) | exact .tail _ (.tail _ (.tail _ (.head _))) | exact .tail _ (.tail _ (.tail _ (.tail _ (.head _)))) | exact .tail _ (.tail _ (.tail _ (.tail _ (.tail _ (.head _))))) | exact .tail _ (.tail _ (.tail _ (.tail _ (.tail _ (.tail _ (.head _)))))) | exact .tail _ (.tail _ (.tail _ (.tail _ (.tail _ (.tail _ (.tail _ (.head _))))))))) _ Try.underlying22 rfl (.int .u64 (now : Nat)) rfl ?_)
      | ((with_reducible refine ati_mkmap ?_); refine wi_idmade (fun _ => trivial) rfl 3 4 ?_; intro bm w2 hbm hn2 hM2; have HM := Lib.hid hM2; have HBM : Hid (w.heap.size ≤ bm) := Lib.hid (by rw [hbm]; exact hv.below.size); replace hv := hv.new hn2; clear hbm hM2 hn2)
      | ((with_reducible refine ati_alloc (T := 76) (dst := some 3) ?_); refine wi_newb (fun _ => trivial) (fun _ h => by cases h) rfl #[.map none] 76 (fun _ => rfl) ?_; intro b3 w2 hm2; replace hv := hv.madeAt hm2; replace HM := Lib.hid (HM.out.new hm2.made.new); clear hm2)
      | ((with_reducible refine ati_store (T := 76) ?_); refine wi_stc (fun _ => trivial) rfl b3 0 rfl (.map (some bm)) rfl _ (hv.vars.row (by first | exact .head _ | exact .tail _ (.head _) | exact .tail _ (.tail _ (.head _)) | exact .tail _ (.tail _ (.tail _ (.head _))) | exact .tail _ (.tail _ (.tail _ (.tail _ (.head _)))) | exact .tail _ (.tail _ (.tail _ (.tail _ (.tail _ (.head _))))) | exact .tail _ (.tail _ (.tail _ (.tail _ (.tail _ (.tail _ (.head _)))))) | exact .tail _ (.tail _ (.tail _ (.tail _ (.tail _ (.tail _ (.tail _ (.head _))))))))) (hv.vars.sft (by first | exact .head _ | exact .tail _ (.head _) | exact .tail _ (.tail _ (.head _)) | exact .tail _ (.tail _ (.tail _ (.head _))) | exact .tail _ (.tail _ (.tail _ (.tail _ (.head _)))) | exact .tail _ (.tail _ (.tail _ (.tail _ (.tail _ (.head _))))) | exact .tail _ (.tail _ (.tail _ (.tail _ (.tail _ (.tail _ (.head _)))))) | exact .tail _ (.tail _ (.tail _ (.tail _ (.tail _ (.tail _ (.tail _ (.head _))))))))) (by kernel_rfl) rfl (by first | decide | exact Nat.succ_pos _) ?_; intro w2 hw2; replace HM := Lib.hid (HM.out.wrote hw2 (hv.vars.sft (b := b3) (by first | exact .head _ | exact .tail _ (.head _) | exact .tail _ (.tail _ (.head _)) | exact .tail _ (.tail _ (.tail _ (.head _))) | exact .tail _ (.tail _ (.tail _ (.tail _ (.head _)))) | exact .tail _ (.tail _ (.tail _ (.tail _ (.tail _ (.head _))))) | exact .tail _ (.tail _ (.tail _ (.tail _ (.tail _ (.tail _ (.head _)))))) | exact .tail _ (.tail _ (.tail _ (.tail _ (.tail _ (.tail _ (.tail _ (.head _)))))))))); (first | (replace hv := hv.set 0 rfl hw2) | (replace hv := hv.set 1 rfl hw2) | (replace hv := hv.set 2 rfl hw2) | (replace hv := hv.set 3 rfl hw2) | (replace hv := hv.set 4 rfl hw2) | (replace hv := hv.set 5 rfl hw2)); simp only [List.set, List.setIfInBounds_toArray, List.set_cons_zero, List.set_cons_succ] at hv; clear hw2)
      | (refine ⟨trivial, ?_⟩; gi_at_call 25; refine (all_in _ _ _).mono ?_; rintro e w' ⟨bp, rfl, hmp⟩; replace hv := hv.madeAt hmp; replace HM := Lib.hid (HM.out.new hmp.made.new); clear hmp))
    have lp : bp < w'.heap.size := hv.vars.lt (b := bp) (by first | exact .head _ | exact .tail _ (.head _) | exact .tail _ (.tail _ (.head _)) | exact .tail _ (.tail _ (.tail _ (.head _))) | exact .tail _ (.tail _ (.tail _ (.tail _ (.head _)))) | exact .tail _ (.tail _ (.tail _ (.tail _ (.tail _ (.head _))))) | exact .tail _ (.tail _ (.tail _ (.tail _ (.tail _ (.tail _ (.head _)))))) | exact .tail _ (.tail _ (.tail _ (.tail _ (.tail _ (.tail _ (.tail _ (.head _))))))))
    have l1 : b1 < w'.heap.size := hv.vars.lt (b := b1) (by first | exact .head _ | exact .tail _ (.head _) | exact .tail _ (.tail _ (.head _)) | exact .tail _ (.tail _ (.tail _ (.head _))) | exact .tail _ (.tail _ (.tail _ (.tail _ (.head _)))) | exact .tail _ (.tail _ (.tail _ (.tail _ (.tail _ (.head _))))) | exact .tail _ (.tail _ (.tail _ (.tail _ (.tail _ (.tail _ (.head _)))))) | exact .tail _ (.tail _ (.tail _ (.tail _ (.tail _ (.tail _ (.tail _ (.head _))))))))
    have lm : bm < w'.heap.size := HM.out.lt
    have lw : w.heap.size ≤ w'.heap.size := hv.below.size
    have LP := Lib.hid lp
    have L1 := Lib.hid l1
    have LM := Lib.hid lm
    have LW := Lib.hid lw
    clear lp l1 lm lw
    refine wpIn_rangeFunc_ownH (by rfl) (by decide) (gf := 54) (lb := #[.pointer (some ⟨bp, 0, none⟩)]) rfl trivial (enters_of Try.func54 (by kernel_rfl) rfl)
      (all_stops 8 (by decide) bp b1 w.heap.size sv S HI.out.1 HI.out.2.1 HLE.out _ (itS_of hv HR0.out (by first | exact .head _ | exact .tail _ (.head _) | exact .tail _ (.tail _ (.head _)) | exact .tail _ (.tail _ (.tail _ (.head _))) | exact .tail _ (.tail _ (.tail _ (.tail _ (.head _)))) | exact .tail _ (.tail _ (.tail _ (.tail _ (.tail _ (.head _))))) | exact .tail _ (.tail _ (.tail _ (.tail _ (.tail _ (.tail _ (.head _)))))) | exact .tail _ (.tail _ (.tail _ (.tail _ (.tail _ (.tail _ (.tail _ (.head _)))))))) (by first | exact .head _ | exact .tail _ (.head _) | exact .tail _ (.tail _ (.head _)) | exact .tail _ (.tail _ (.tail _ (.head _))) | exact .tail _ (.tail _ (.tail _ (.tail _ (.head _)))) | exact .tail _ (.tail _ (.tail _ (.tail _ (.tail _ (.head _))))) | exact .tail _ (.tail _ (.tail _ (.tail _ (.tail _ (.tail _ (.head _)))))) | exact .tail _ (.tail _ (.tail _ (.tail _ (.tail _ (.tail _ (.tail _ (.head _)))))))) HI.out)) WhK.trans (WhK.turn LW.out LP.out L1.out) (Below.refl _ _) (fun _ => rfl)
      (fun pre W => Mem w W [(bp, #[.pointer (some ⟨b1, 0, none⟩)]), (b3, #[.map (some bm)]), (b2, #[.bool false]), (b1, (rowW now sv))] R ∧ IdM Try.prog 3 4 W bm (idsF S pre) ∧ (idsF S pre).Nodup ∧ pre.length ≤ 32)
      (fun cc pre W => cc = .ret ∧ Mem w W [(bp, #[.pointer (some ⟨b1, 0, none⟩)]), (b3, #[.map (some bm)]), (b2, #[.bool false]), (b1, (rowW now sv))] R ∧ (¬ (idsF S pre).Nodup ∨ 32 < pre.length))
      (fun s A B row h hg hr => ⟨h.1.turn hg (fun r e => ⟨Nat.le_trans LW.out (hr r e).1, (hr r e).2⟩), h.2.1.kept hg (fun e => by have := (hr _ e.symm).1; have := LM.out; omega), h.2.2⟩)
      (fun cc s A B row h hg hr => ⟨h.1, h.2.1.turn hg (fun r e => ⟨Nat.le_trans LW.out (hr r e).1, (hr r e).2⟩), h.2.2⟩)
      ⟨hv, HM.out, List.nodup_nil, Nat.zero_le _⟩
      (fun x a' W => ∃ Bx, W.rowD Bx = #[.int .u64 ((S.flatten[x.1]).1 : Nat), .int .i64 (S.flatten[x.1]).2] ∧ a' = { tmps := #[.agg (rowW now sv), .pointer (some ⟨b1, 0, none⟩), .pointer (some ⟨b2, 0, none⟩), .pointer (some ⟨b3, 0, none⟩), .pointer (some ⟨Bx, 0, none⟩), undef, .pointer (some ⟨b1, 0, none⟩), .int .u64 (now : Nat), .bool false, .map (some bm), .func (.func 54) #[] #[.pointer (some ⟨bp, 0, none⟩)], .agg #[.int .u64 ((S.flatten[x.1]).1 : Nat), .int .i64 (S.flatten[x.1]).2], undef, undef, undef, undef, undef, undef, undef, undef, undef, undef, undef, undef, undef, undef, undef, undef, undef, undef, undef, undef], defers := [] })
      (fun x a' s A B row h hg hr => by
        obtain ⟨Bx, h1, h2⟩ := h
        exact ⟨Bx, rowD_turn h1 (Nat.succ_pos 1) hg (fun r e => (hr r e).2), h2⟩) ?assign ?body ?done ?stop
    case assign =>
      rintro l0 pre x W K ⟨hv, hM, hnd, h32⟩ hK
      simp only [encF, zip_one, List.setIfInBounds_toArray, List.set_cons_succ, List.set_cons_zero]
      gi_wp2_with (first
        | ((with_reducible refine ati_alloc (T := 63) (dst := some 4) ?_); refine wi_newb (fun _ => trivial) (fun _ h => by cases h) rfl #[.int .u64 0, .int .i64 0] 63 (fun _ => rfl) ?_; intro b4 w2 hm2)
        | ((with_reducible refine ati_store (T := 63) ?_); go_must (refine wi_stv (fun _ => trivial) rfl b4 rfl #[.int .u64 ((S.flatten[x.1]).1 : Nat), .int .i64 (S.flatten[x.1]).2] rfl _ hm2.row hm2.soft 2 infoTm rfl rfl (by simp [Value.oneCell']) ?_); intro w3 hw3; have hm3 := hm2.filled hw3; have hnw := hm3.made.new; have hv0 := hv; replace hv := hv.madeAt hm3; clear hm2 hw3 hm3))
      exact hK _ _ (hnw.keeps _) (whK_of hv0 hv (hnw.size) (by first | exact .head _ | exact .tail _ (.head _) | exact .tail _ (.tail _ (.head _)) | exact .tail _ (.tail _ (.tail _ (.head _))) | exact .tail _ (.tail _ (.tail _ (.tail _ (.head _)))) | exact .tail _ (.tail _ (.tail _ (.tail _ (.tail _ (.head _))))) | exact .tail _ (.tail _ (.tail _ (.tail _ (.tail _ (.tail _ (.head _)))))) | exact .tail _ (.tail _ (.tail _ (.tail _ (.tail _ (.tail _ (.tail _ (.head _)))))))) (by first | exact .head _ | exact .tail _ (.head _) | exact .tail _ (.tail _ (.head _)) | exact .tail _ (.tail _ (.tail _ (.head _))) | exact .tail _ (.tail _ (.tail _ (.tail _ (.head _)))) | exact .tail _ (.tail _ (.tail _ (.tail _ (.tail _ (.head _))))) | exact .tail _ (.tail _ (.tail _ (.tail _ (.tail _ (.tail _ (.head _)))))) | exact .tail _ (.tail _ (.tail _ (.tail _ (.tail _ (.tail _ (.tail _ (.head _)))))))) (by first | exact .head _ | exact .tail _ (.head _) | exact .tail _ (.tail _ (.head _)) | exact .tail _ (.tail _ (.tail _ (.head _))) | exact .tail _ (.tail _ (.tail _ (.tail _ (.head _)))) | exact .tail _ (.tail _ (.tail _ (.tail _ (.tail _ (.head _))))) | exact .tail _ (.tail _ (.tail _ (.tail _ (.tail _ (.tail _ (.head _)))))) | exact .tail _ (.tail _ (.tail _ (.tail _ (.tail _ (.tail _ (.tail _ (.head _))))))) | exact .tail _ (.tail _ (.tail _ (.tail _ (.tail _ (.tail _ (.tail _ (.tail _ (.head _))))))))) (by first | exact .head _ | exact .tail _ (.head _) | exact .tail _ (.tail _ (.head _)) | exact .tail _ (.tail _ (.tail _ (.head _))) | exact .tail _ (.tail _ (.tail _ (.tail _ (.head _)))) | exact .tail _ (.tail _ (.tail _ (.tail _ (.tail _ (.head _))))) | exact .tail _ (.tail _ (.tail _ (.tail _ (.tail _ (.tail _ (.head _)))))) | exact .tail _ (.tail _ (.tail _ (.tail _ (.tail _ (.tail _ (.tail _ (.head _))))))) | exact .tail _ (.tail _ (.tail _ (.tail _ (.tail _ (.tail _ (.tail _ (.tail _ (.head _)))))))))) ⟨hv.keep (List.sublist_cons_self _ _), hM.new hnw, hnd, h32⟩ ⟨b4, hv.vars.row (b := b4) (by first | exact .head _ | exact .tail _ (.head _) | exact .tail _ (.tail _ (.head _)) | exact .tail _ (.tail _ (.tail _ (.head _))) | exact .tail _ (.tail _ (.tail _ (.tail _ (.head _)))) | exact .tail _ (.tail _ (.tail _ (.tail _ (.tail _ (.head _))))) | exact .tail _ (.tail _ (.tail _ (.tail _ (.tail _ (.tail _ (.head _)))))) | exact .tail _ (.tail _ (.tail _ (.tail _ (.tail _ (.tail _ (.tail _ (.head _)))))))), rfl⟩
    case body =>
      rintro l0 pre x a' W hl0 hr0 ⟨hv, hM, hnd, h32⟩ ⟨Bx, hbx, rfl⟩ hlt
      obtain ⟨⟨x1, x2⟩, hx⟩ : ∃ y, S.flatten[x.1] = y := ⟨_, rfl⟩
      have HWF : Hid ((Lit.int .i64 x2).wf = true) := Lib.hid (by
        have h1 := List.getElem_mem x.2
        rw [hx] at h1
        obtain ⟨l, hl, ht⟩ := List.mem_flatten.1 h1
        exact HGD.out l hl _ ht)
      have HIDS : Hid (idsF S (pre ++ [x]) = idsF S pre ++ [x2]) := Lib.hid (by rw [idsF_snoc]; simp only [hx])
      have HLI : Hid ((idsF S pre).length = pre.length) := Lib.hid (by unfold idsF; rw [List.length_map])
      rw [hx] at hbx ⊢
      simp only [] at hbx ⊢
      generalize idsF S pre = ids at hM hnd HIDS HLI
      have HND := Lib.hid hnd
      have HM2 := Lib.hid hM
      clear hx hnd hM hlt
      by_cases hd : x2 ∈ ids
      · have yd : decide (x2 ∈ ids) = true := decide_eq_true hd
        have HD := Lib.hid hd
        clear hd
        gi_wp2_with (first
          | ((with_reducible refine ati_load (T := 76) ?_); refine wi_ldc (fun _ => trivial) rfl b3 0 rfl _ (hv.vars.row (by first | exact .head _ | exact .tail _ (.head _) | exact .tail _ (.tail _ (.head _)) | exact .tail _ (.tail _ (.tail _ (.head _))) | exact .tail _ (.tail _ (.tail _ (.tail _ (.head _)))) | exact .tail _ (.tail _ (.tail _ (.tail _ (.tail _ (.head _))))) | exact .tail _ (.tail _ (.tail _ (.tail _ (.tail _ (.tail _ (.head _)))))) | exact .tail _ (.tail _ (.tail _ (.tail _ (.tail _ (.tail _ (.tail _ (.head _))))))))) _ Try.underlying76 rfl (.map (some bm)) rfl ?_)
          | ((with_reducible refine ati_load (T := 3) ?_); refine wi_ldc (fun _ => trivial) rfl Bx 1 rfl _ hbx _ Try.underlying3 rfl (.int .i64 x2) rfl ?_)
          | ((with_reducible refine ati_lookup ?_); refine wi_idlook (fun _ => trivial) rfl rfl rfl HM2.out Try.underlying3 Try.underlying76 Try.underlying4 (Try.zeroValue4 _) HWF.out ?_)
          | ((with_reducible refine ati_store (T := 4) ?_); go_must (refine wi_stc (fun _ => trivial) rfl b2 0 rfl (.bool false) rfl _ (hv.vars.row (by first | exact .head _ | exact .tail _ (.head _) | exact .tail _ (.tail _ (.head _)) | exact .tail _ (.tail _ (.tail _ (.head _))) | exact .tail _ (.tail _ (.tail _ (.tail _ (.head _)))) | exact .tail _ (.tail _ (.tail _ (.tail _ (.tail _ (.head _))))) | exact .tail _ (.tail _ (.tail _ (.tail _ (.tail _ (.tail _ (.head _)))))) | exact .tail _ (.tail _ (.tail _ (.tail _ (.tail _ (.tail _ (.tail _ (.head _))))))))) (hv.vars.sft (by first | exact .head _ | exact .tail _ (.head _) | exact .tail _ (.tail _ (.head _)) | exact .tail _ (.tail _ (.tail _ (.head _))) | exact .tail _ (.tail _ (.tail _ (.tail _ (.head _)))) | exact .tail _ (.tail _ (.tail _ (.tail _ (.tail _ (.head _))))) | exact .tail _ (.tail _ (.tail _ (.tail _ (.tail _ (.tail _ (.head _)))))) | exact .tail _ (.tail _ (.tail _ (.tail _ (.tail _ (.tail _ (.tail _ (.head _))))))))) (by kernel_rfl) rfl (by first | decide | exact Nat.succ_pos _) ?_); intro w2 hw2; have hkp := hw2.keeps (hv.vars.sft (b := b2) (by first | exact .head _ | exact .tail _ (.head _) | exact .tail _ (.tail _ (.head _)) | exact .tail _ (.tail _ (.tail _ (.head _))) | exact .tail _ (.tail _ (.tail _ (.tail _ (.head _)))) | exact .tail _ (.tail _ (.tail _ (.tail _ (.tail _ (.head _))))) | exact .tail _ (.tail _ (.tail _ (.tail _ (.tail _ (.tail _ (.head _)))))) | exact .tail _ (.tail _ (.tail _ (.tail _ (.tail _ (.tail _ (.tail _ (.head _))))))))) w'.heap.size; (first | (replace hv := hv.set 0 rfl hw2) | (replace hv := hv.set 1 rfl hw2) | (replace hv := hv.set 2 rfl hw2) | (replace hv := hv.set 3 rfl hw2) | (replace hv := hv.set 4 rfl hw2) | (replace hv := hv.set 5 rfl hw2)); simp only [List.set, List.setIfInBounds_toArray, List.set_cons_zero, List.set_cons_succ] at hv; clear hw2))
        exact ⟨hkp, rfl, hv, .inl (by rw [HIDS.out]; intro hn; rw [List.nodup_append] at hn; exact hn.2.2 x2 HD.out x2 (by simp) rfl)⟩
      · have yd : decide (x2 ∈ ids) = false := decide_eq_false hd
        have HD := Lib.hid hd
        clear hd
        by_cases h33 : pre.length = 32
        · have yl : ((pre.length : Int) == 32) = true := by rw [h33]; rfl
          have HL33 := Lib.hid h33
          clear h33
          gi_wp2_with (first
            | ((with_reducible refine ati_load (T := 76) ?_); refine wi_ldc (fun _ => trivial) rfl b3 0 rfl _ (hv.vars.row (by first | exact .head _ | exact .tail _ (.head _) | exact .tail _ (.tail _ (.head _)) | exact .tail _ (.tail _ (.tail _ (.head _))) | exact .tail _ (.tail _ (.tail _ (.tail _ (.head _)))) | exact .tail _ (.tail _ (.tail _ (.tail _ (.tail _ (.head _))))) | exact .tail _ (.tail _ (.tail _ (.tail _ (.tail _ (.tail _ (.head _)))))) | exact .tail _ (.tail _ (.tail _ (.tail _ (.tail _ (.tail _ (.tail _ (.head _))))))))) _ Try.underlying76 rfl (.map (some bm)) rfl ?_)
            | ((with_reducible refine ati_load (T := 3) ?_); refine wi_ldc (fun _ => trivial) rfl Bx 1 rfl _ hbx _ Try.underlying3 rfl (.int .i64 x2) rfl ?_)
            | ((with_reducible refine ati_lookup ?_); refine wi_idlook (fun _ => trivial) rfl rfl rfl HM2.out Try.underlying3 Try.underlying76 Try.underlying4 (Try.zeroValue4 _) HWF.out ?_)
            | ((with_reducible refine ati_len ?_); refine wi_idlen (fun _ => trivial) rfl rfl HM2.out Try.underlying76 HND.out HLI.out ?_)
            | ((with_reducible refine ati_store (T := 4) ?_); refine wi_stc (fun _ => trivial) rfl b2 0 rfl (.bool false) rfl _ (hv.vars.row (by first | exact .head _ | exact .tail _ (.head _) | exact .tail _ (.tail _ (.head _)) | exact .tail _ (.tail _ (.tail _ (.head _))) | exact .tail _ (.tail _ (.tail _ (.tail _ (.head _)))) | exact .tail _ (.tail _ (.tail _ (.tail _ (.tail _ (.head _))))) | exact .tail _ (.tail _ (.tail _ (.tail _ (.tail _ (.tail _ (.head _)))))) | exact .tail _ (.tail _ (.tail _ (.tail _ (.tail _ (.tail _ (.tail _ (.head _))))))))) (hv.vars.sft (by first | exact .head _ | exact .tail _ (.head _) | exact .tail _ (.tail _ (.head _)) | exact .tail _ (.tail _ (.tail _ (.head _))) | exact .tail _ (.tail _ (.tail _ (.tail _ (.head _)))) | exact .tail _ (.tail _ (.tail _ (.tail _ (.tail _ (.head _))))) | exact .tail _ (.tail _ (.tail _ (.tail _ (.tail _ (.tail _ (.head _)))))) | exact .tail _ (.tail _ (.tail _ (.tail _ (.tail _ (.tail _ (.tail _ (.head _))))))))) (by kernel_rfl) rfl (by first | decide | exact Nat.succ_pos _) ?_; intro w2 hw2; have hkp := hw2.keeps (hv.vars.sft (b := b2) (by first | exact .head _ | exact .tail _ (.head _) | exact .tail _ (.tail _ (.head _)) | exact .tail _ (.tail _ (.tail _ (.head _))) | exact .tail _ (.tail _ (.tail _ (.tail _ (.head _)))) | exact .tail _ (.tail _ (.tail _ (.tail _ (.tail _ (.head _))))) | exact .tail _ (.tail _ (.tail _ (.tail _ (.tail _ (.tail _ (.head _)))))) | exact .tail _ (.tail _ (.tail _ (.tail _ (.tail _ (.tail _ (.tail _ (.head _))))))))) w'.heap.size; (first | (replace hv := hv.set 0 rfl hw2) | (replace hv := hv.set 1 rfl hw2) | (replace hv := hv.set 2 rfl hw2) | (replace hv := hv.set 3 rfl hw2) | (replace hv := hv.set 4 rfl hw2) | (replace hv := hv.set 5 rfl hw2)); simp only [List.set, List.setIfInBounds_toArray, List.set_cons_zero, List.set_cons_succ] at hv; clear hw2))
          exact ⟨hkp, rfl, hv, .inr (by rw [List.length_append, HL33.out]; simp)⟩
        · have yl : ((pre.length : Int) == 32) = false := by rw [beq_eq_false_iff_ne]; omega
          have HL33 : Hid (pre.length + 1 ≤ 32) := Lib.hid (by omega)
          have yl2 : ¬ (pre.length : Int) = 32 := by omega
          have HML : Hid (ids.length < maxLen) := Lib.hid (by rw [HLI.out]; unfold maxLen; omega)
          clear h33 h32
          gi_wp2_with (first
            | ((with_reducible refine ati_load (T := 76) ?_); refine wi_ldc (fun _ => trivial) rfl b3 0 rfl _ (hv.vars.row (by first | exact .head _ | exact .tail _ (.head _) | exact .tail _ (.tail _ (.head _)) | exact .tail _ (.tail _ (.tail _ (.head _))) | exact .tail _ (.tail _ (.tail _ (.tail _ (.head _)))) | exact .tail _ (.tail _ (.tail _ (.tail _ (.tail _ (.head _))))) | exact .tail _ (.tail _ (.tail _ (.tail _ (.tail _ (.tail _ (.head _)))))) | exact .tail _ (.tail _ (.tail _ (.tail _ (.tail _ (.tail _ (.tail _ (.head _))))))))) _ Try.underlying76 rfl (.map (some bm)) rfl ?_)
            | ((with_reducible refine ati_load (T := 3) ?_); refine wi_ldc (fun _ => trivial) rfl Bx 1 rfl _ hbx _ Try.underlying3 rfl (.int .i64 x2) rfl ?_)
            | ((with_reducible refine ati_lookup ?_); refine wi_idlook (fun _ => trivial) rfl rfl rfl HM2.out Try.underlying3 Try.underlying76 Try.underlying4 (Try.zeroValue4 _) HWF.out ?_)
            | ((with_reducible refine ati_len ?_); refine wi_idlen (fun _ => trivial) rfl rfl HM2.out Try.underlying76 HND.out HLI.out ?_)
            | ((with_reducible refine ati_mapUpdate ?_); refine wi_idput (fun _ => trivial) rfl rfl rfl rfl HM2.out Try.underlying3 Try.underlying76 Try.underlying4 HML.out HWF.out ?_; intro w1 hM1 hg1))
          have hv1 := hv.turn hg1 (fun r e => by cases e; exact ⟨HBM.out, HM2.out.noCells⟩)
          refine ⟨KeepsFrom.of_grownBy hg1 (fun j e => by cases e; exact LM.out), whK_of hv hv1 hg1.size (by first | exact .head _ | exact .tail _ (.head _) | exact .tail _ (.tail _ (.head _)) | exact .tail _ (.tail _ (.tail _ (.head _))) | exact .tail _ (.tail _ (.tail _ (.tail _ (.head _)))) | exact .tail _ (.tail _ (.tail _ (.tail _ (.tail _ (.head _))))) | exact .tail _ (.tail _ (.tail _ (.tail _ (.tail _ (.tail _ (.head _)))))) | exact .tail _ (.tail _ (.tail _ (.tail _ (.tail _ (.tail _ (.tail _ (.head _)))))))) (by first | exact .head _ | exact .tail _ (.head _) | exact .tail _ (.tail _ (.head _)) | exact .tail _ (.tail _ (.tail _ (.head _))) | exact .tail _ (.tail _ (.tail _ (.tail _ (.head _)))) | exact .tail _ (.tail _ (.tail _ (.tail _ (.tail _ (.head _))))) | exact .tail _ (.tail _ (.tail _ (.tail _ (.tail _ (.tail _ (.head _)))))) | exact .tail _ (.tail _ (.tail _ (.tail _ (.tail _ (.tail _ (.tail _ (.head _)))))))) (by first | exact .head _ | exact .tail _ (.head _) | exact .tail _ (.tail _ (.head _)) | exact .tail _ (.tail _ (.tail _ (.head _))) | exact .tail _ (.tail _ (.tail _ (.tail _ (.head _)))) | exact .tail _ (.tail _ (.tail _ (.tail _ (.tail _ (.head _))))) | exact .tail _ (.tail _ (.tail _ (.tail _ (.tail _ (.tail _ (.head _)))))) | exact .tail _ (.tail _ (.tail _ (.tail _ (.tail _ (.tail _ (.tail _ (.head _)))))))) (by first | exact .head _ | exact .tail _ (.head _) | exact .tail _ (.tail _ (.head _)) | exact .tail _ (.tail _ (.tail _ (.head _))) | exact .tail _ (.tail _ (.tail _ (.tail _ (.head _)))) | exact .tail _ (.tail _ (.tail _ (.tail _ (.tail _ (.head _))))) | exact .tail _ (.tail _ (.tail _ (.tail _ (.tail _ (.tail _ (.head _)))))) | exact .tail _ (.tail _ (.tail _ (.tail _ (.tail _ (.tail _ (.tail _ (.head _)))))))), hv1, by rw [HIDS.out]; exact hM1, ?_, by rw [List.length_append]; exact HL33.out⟩
          rw [HIDS.out, List.nodup_append]
          exact ⟨HND.out, by simp, fun a ha b hb e => by rw [List.mem_singleton.1 hb] at e; rw [e] at ha; exact HD.out ha⟩
    case done =>
      rintro D ys W hD rfl ⟨hv, hM, hnd, h32⟩ hK
      have HO : Hid (slotsB now 0 S = c) := Lib.hid (by
        have e : idsF S (List.finRange S.flatten.length) = S.flatten.map (·.2) := by rw [← fstN_all, idsF_fst, List.take_length]
        rw [e] at hnd
        have h1 := HC.out
        unfold chkW at h1
        rw [decide_eq_true HNM.out, decide_eq_true (p := S.flatten.length ≤ 32) (by simpa using h32), idsB_nodup.2 hnd] at h1
        simpa using h1)
      have LD : Hid (w.heap.size ≤ D) := Lib.hid (Nat.le_trans LW.out hD)
      clear hM hnd h32 HC
      gi_wp2_with (first
        | fail)
      gi_loopw [24] (fun iv wr => ∃ i : Nat, i ≤ 8 ∧ iv = .int .i64 (i : Nat) ∧ Mem w wr [(bp, #[.pointer (some ⟨b1, 0, none⟩)]), (b3, #[.map (some bm)]), (b2, #[.bool false]), (b1, (rowW now sv))] R ∧ Hid (wr.heap[D]? = some (.deferred (some []))) ∧ Hid (slotsB now i (S.drop i) = c)) (fun iv _ => 8 - (intOf iv).toNat)
      case atStart => exact ⟨0, Nat.zero_le _, rfl, hv, Lib.hid hK, Lib.hid (by rw [List.drop_zero]; exact HO.out)⟩
      case round =>
        clear hv HO hK
        obtain ⟨i, hi0, rfl, hv, HK, HO⟩ := hrel
        by_cases hi : i < 8
        · have hki : (i : Int) < 8 := by omega
          have hSi : i < S.length := by rw [HI.out.2.1]; exact hi
          obtain ⟨l, hl⟩ : ∃ l, S[i] = l := ⟨_, rfl⟩
          have HSL : Hid (S[i]? = some l) := Lib.hid (by rw [List.getElem?_eq_getElem hSi, hl])
          have hll := HLE.out S[i] (List.getElem_mem hSi)
          rw [hl] at hll
          have kS := fun (w' : World) (h : Mem w w' [(bp, #[.pointer (some ⟨b1, 0, none⟩)]), (b3, #[.map (some bm)]), (b2, #[.bool false]), (b1, (rowW now sv))] R) => slotted_any now i hi sv S l HSL.out w w' _ R h HI.out hll
          have HI8 := Lib.hid hi
          rw [slotsB_at HSL.out] at HO
          clear hSi hl hll hi hi0
          cases hb : slotB now i none l with
          | false =>
            rw [hb] at kS HO
            have KS := Lib.hid kS
            have HO2 : Hid (false = c) := Lib.hid (by simpa using HO.out)
            clear kS hb HO
            gi_wp2_with (first
              | ((with_reducible refine ati_load (T := 26) ?_); refine wi_ldv (fun _ => trivial) rfl b1 rfl _ (hv.vars.row (by first | exact .head _ | exact .tail _ (.head _) | exact .tail _ (.tail _ (.head _)) | exact .tail _ (.tail _ (.tail _ (.head _))) | exact .tail _ (.tail _ (.tail _ (.tail _ (.head _)))) | exact .tail _ (.tail _ (.tail _ (.tail _ (.tail _ (.head _))))) | exact .tail _ (.tail _ (.tail _ (.tail _ (.tail _ (.tail _ (.head _)))))) | exact .tail _ (.tail _ (.tail _ (.tail _ (.tail _ (.tail _ (.tail _ (.head _))))))))) 9 _ Try.underlying26 rfl infoWh (by decide) HSZ.out ?_)
              | (refine ⟨trivial, ?_⟩; gi_at_call 30; (with_reducible refine (callsIn_wide.2 (KS.out _ hv)).mono ?_); rintro e w1 ⟨rfl, hn1⟩; replace hv := hv.new hn1; replace HK := Lib.hid ((hn1.block D (Array.getElem?_eq_some_iff.1 HK.out).1).trans HK.out); clear hn1)
              | ((with_reducible refine ati_store (T := 4) ?_); refine wi_stc (fun _ => trivial) rfl b2 0 rfl (.bool false) rfl _ (hv.vars.row (by first | exact .head _ | exact .tail _ (.head _) | exact .tail _ (.tail _ (.head _)) | exact .tail _ (.tail _ (.tail _ (.head _))) | exact .tail _ (.tail _ (.tail _ (.tail _ (.head _)))) | exact .tail _ (.tail _ (.tail _ (.tail _ (.tail _ (.head _))))) | exact .tail _ (.tail _ (.tail _ (.tail _ (.tail _ (.tail _ (.head _)))))) | exact .tail _ (.tail _ (.tail _ (.tail _ (.tail _ (.tail _ (.tail _ (.head _))))))))) (hv.vars.sft (by first | exact .head _ | exact .tail _ (.head _) | exact .tail _ (.tail _ (.head _)) | exact .tail _ (.tail _ (.tail _ (.head _))) | exact .tail _ (.tail _ (.tail _ (.tail _ (.head _)))) | exact .tail _ (.tail _ (.tail _ (.tail _ (.tail _ (.head _))))) | exact .tail _ (.tail _ (.tail _ (.tail _ (.tail _ (.tail _ (.head _)))))) | exact .tail _ (.tail _ (.tail _ (.tail _ (.tail _ (.tail _ (.tail _ (.head _))))))))) (by kernel_rfl) rfl (by first | decide | exact Nat.succ_pos _) ?_; intro w2 hw2; replace HK := Lib.hid (wrote_D hw2 (hv.vars.sft (b := b2) (by first | exact .head _ | exact .tail _ (.head _) | exact .tail _ (.tail _ (.head _)) | exact .tail _ (.tail _ (.tail _ (.head _))) | exact .tail _ (.tail _ (.tail _ (.tail _ (.head _)))) | exact .tail _ (.tail _ (.tail _ (.tail _ (.tail _ (.head _))))) | exact .tail _ (.tail _ (.tail _ (.tail _ (.tail _ (.tail _ (.head _)))))) | exact .tail _ (.tail _ (.tail _ (.tail _ (.tail _ (.tail _ (.tail _ (.head _))))))))) HK.out); (first | (replace hv := hv.set 0 rfl hw2) | (replace hv := hv.set 1 rfl hw2) | (replace hv := hv.set 2 rfl hw2) | (replace hv := hv.set 3 rfl hw2) | (replace hv := hv.set 4 rfl hw2) | (replace hv := hv.set 5 rfl hw2)); simp only [List.set, List.setIfInBounds_toArray, List.set_cons_zero, List.set_cons_succ] at hv; clear hw2))
            refine ⟨by simp, .inl ⟨_, _, rfl, run_takeDeferred HK.out, ?_⟩⟩
            have hT := hv.turn (grownBy_putObj' _ D (.deferred none)) (fun r e => by cases e; exact ⟨LD.out, _, HK.out, rfl⟩)
            exact ⟨.bool false, res_cell rfl rfl (run_loadCell Try.underlying4 rfl (hT.vars.row (b := b2) (by first | exact .head _ | exact .tail _ (.head _) | exact .tail _ (.tail _ (.head _)) | exact .tail _ (.tail _ (.tail _ (.head _))) | exact .tail _ (.tail _ (.tail _ (.tail _ (.head _)))) | exact .tail _ (.tail _ (.tail _ (.tail _ (.tail _ (.head _))))) | exact .tail _ (.tail _ (.tail _ (.tail _ (.tail _ (.tail _ (.head _)))))) | exact .tail _ (.tail _ (.tail _ (.tail _ (.tail _ (.tail _ (.tail _ (.head _))))))))) rfl), congrArg (fun b => Ending.returned (.bool b)) HO2.out, hT.below⟩
          | true =>
            rw [hb] at kS HO
            have KS := Lib.hid kS
            have HO2 : Hid (slotsB now (i + 1) (S.drop (i + 1)) = c) := Lib.hid (by simpa using HO.out)
            clear kS hb HO
            gi_wp2_with (first
              | ((with_reducible refine ati_load (T := 26) ?_); refine wi_ldv (fun _ => trivial) rfl b1 rfl _ (hv.vars.row (by first | exact .head _ | exact .tail _ (.head _) | exact .tail _ (.tail _ (.head _)) | exact .tail _ (.tail _ (.tail _ (.head _))) | exact .tail _ (.tail _ (.tail _ (.tail _ (.head _)))) | exact .tail _ (.tail _ (.tail _ (.tail _ (.tail _ (.head _))))) | exact .tail _ (.tail _ (.tail _ (.tail _ (.tail _ (.tail _ (.head _)))))) | exact .tail _ (.tail _ (.tail _ (.tail _ (.tail _ (.tail _ (.tail _ (.head _))))))))) 9 _ Try.underlying26 rfl infoWh (by decide) HSZ.out ?_)
              | (refine ⟨trivial, ?_⟩; gi_at_call 30; (with_reducible refine (callsIn_wide.2 (KS.out _ hv)).mono ?_); rintro e w1 ⟨rfl, hn1⟩; replace hv := hv.new hn1; replace HK := Lib.hid ((hn1.block D (Array.getElem?_eq_some_iff.1 HK.out).1).trans HK.out); clear hn1))
            have hin := HI8.out
            go_roundw
            case rel => exact ⟨i + 1, by omega, by go_num, hv, HK, HO2⟩
            case measure => simp [intOf]; omega
        · have hki : ¬ (i : Int) < 8 := by omega
          have HO2 : Hid (true = c) := Lib.hid (by
            have := HO.out
            rw [List.drop_eq_nil_of_le (by rw [HI.out.2.1]; omega)] at this
            exact this)
          clear hi hi0 HO
          gi_wp2_with (first
            | ((with_reducible refine ati_store (T := 4) ?_); refine wi_stc (fun _ => trivial) rfl b2 0 rfl (.bool true) rfl _ (hv.vars.row (by first | exact .head _ | exact .tail _ (.head _) | exact .tail _ (.tail _ (.head _)) | exact .tail _ (.tail _ (.tail _ (.head _))) | exact .tail _ (.tail _ (.tail _ (.tail _ (.head _)))) | exact .tail _ (.tail _ (.tail _ (.tail _ (.tail _ (.head _))))) | exact .tail _ (.tail _ (.tail _ (.tail _ (.tail _ (.tail _ (.head _)))))) | exact .tail _ (.tail _ (.tail _ (.tail _ (.tail _ (.tail _ (.tail _ (.head _))))))))) (hv.vars.sft (by first | exact .head _ | exact .tail _ (.head _) | exact .tail _ (.tail _ (.head _)) | exact .tail _ (.tail _ (.tail _ (.head _))) | exact .tail _ (.tail _ (.tail _ (.tail _ (.head _)))) | exact .tail _ (.tail _ (.tail _ (.tail _ (.tail _ (.head _))))) | exact .tail _ (.tail _ (.tail _ (.tail _ (.tail _ (.tail _ (.head _)))))) | exact .tail _ (.tail _ (.tail _ (.tail _ (.tail _ (.tail _ (.tail _ (.head _))))))))) (by kernel_rfl) rfl (by first | decide | exact Nat.succ_pos _) ?_; intro w2 hw2; replace HK := Lib.hid (wrote_D hw2 (hv.vars.sft (b := b2) (by first | exact .head _ | exact .tail _ (.head _) | exact .tail _ (.tail _ (.head _)) | exact .tail _ (.tail _ (.tail _ (.head _))) | exact .tail _ (.tail _ (.tail _ (.tail _ (.head _)))) | exact .tail _ (.tail _ (.tail _ (.tail _ (.tail _ (.head _))))) | exact .tail _ (.tail _ (.tail _ (.tail _ (.tail _ (.tail _ (.head _)))))) | exact .tail _ (.tail _ (.tail _ (.tail _ (.tail _ (.tail _ (.tail _ (.head _))))))))) HK.out); (first | (replace hv := hv.set 0 rfl hw2) | (replace hv := hv.set 1 rfl hw2) | (replace hv := hv.set 2 rfl hw2) | (replace hv := hv.set 3 rfl hw2) | (replace hv := hv.set 4 rfl hw2) | (replace hv := hv.set 5 rfl hw2)); simp only [List.set, List.setIfInBounds_toArray, List.set_cons_zero, List.set_cons_succ] at hv; clear hw2))
          refine ⟨by simp, .inl ⟨_, _, rfl, run_takeDeferred HK.out, ?_⟩⟩
          have hT := hv.turn (grownBy_putObj' _ D (.deferred none)) (fun r e => by cases e; exact ⟨LD.out, _, HK.out, rfl⟩)
          exact ⟨.bool true, res_cell rfl rfl (run_loadCell Try.underlying4 rfl (hT.vars.row (b := b2) (by first | exact .head _ | exact .tail _ (.head _) | exact .tail _ (.tail _ (.head _)) | exact .tail _ (.tail _ (.tail _ (.head _))) | exact .tail _ (.tail _ (.tail _ (.tail _ (.head _)))) | exact .tail _ (.tail _ (.tail _ (.tail _ (.tail _ (.head _))))) | exact .tail _ (.tail _ (.tail _ (.tail _ (.tail _ (.tail _ (.head _)))))) | exact .tail _ (.tail _ (.tail _ (.tail _ (.tail _ (.tail _ (.tail _ (.head _))))))))) rfl), congrArg (fun b => Ending.returned (.bool b)) HO2.out, hT.below⟩
    case stop =>
      rintro D cc pre W hD ⟨k, hk, rfl⟩ ⟨rfl, hv, hbad⟩ hK
      have HO2 : Hid (false = c) := Lib.hid (by rw [← HC.out]; exact (bad_chk hk hbad).symm)
      have LD : Hid (w.heap.size ≤ D) := Lib.hid (Nat.le_trans LW.out hD)
      have HK := Lib.hid hK
      clear hbad hk hK hD
      gi_wp2
      refine ⟨by simp, .inl ⟨_, _, rfl, run_takeDeferred HK.out, ?_⟩⟩
      have hT := hv.turn (grownBy_putObj' _ D (.deferred none)) (fun r e => by cases e; exact ⟨LD.out, _, HK.out, rfl⟩)
      exact ⟨.bool false, res_cell rfl rfl (run_loadCell Try.underlying4 rfl (hT.vars.row (b := b2) (by first | exact .head _ | exact .tail _ (.head _) | exact .tail _ (.tail _ (.head _)) | exact .tail _ (.tail _ (.tail _ (.head _))) | exact .tail _ (.tail _ (.tail _ (.tail _ (.head _)))) | exact .tail _ (.tail _ (.tail _ (.tail _ (.tail _ (.head _))))) | exact .tail _ (.tail _ (.tail _ (.tail _ (.tail _ (.tail _ (.head _)))))) | exact .tail _ (.tail _ (.tail _ (.tail _ (.tail _ (.tail _ (.tail _ (.head _))))))))) rfl), congrArg (fun b => Ending.returned (.bool b)) HO2.out, hT.below⟩
set_option maxRecDepth 100000 in
set_option maxHeartbeats 4000000 in
theorem Check_any (now : Nat) (sv : List Value) (S : List (List Tm)) (hgd : ∀ l ∈ S, ∀ t ∈ l, (Lit.int .i64 t.2).wf = true) (hlen : ∀ l ∈ S, l.length ≤ 1000) (w : World) (R : List (Nat × Value × List Value)) (hr0 : ∀ x ∈ R, Rd w x.1 x.2.1 x.2.2) (hi : InW R sv S) :
    Calls Try.prog 13 #[.agg (rowW now sv)] w fun e w' => e = .returned (.bool (chkW now S)) ∧ New w w' := by
  by_cases hm : 1099511627776 < now
  · have hv := Mem.all hr0
    have y1 : decide ((1099511627776 : Int) < (now : Int)) = true := decide_eq_true (by omega)
    have y1n : (1099511627776 : Int) < (now : Int) := by omega
    have HO2 : Hid (chkW now S = false) := Lib.hid (by unfold chkW; rw [decide_eq_false (by unfold MaxT; omega)]; simp)
    have HC : Hid (((rowW now sv) : Array Value)[0]? = some (.int .u64 (now : Nat))) := Lib.hid rfl
    rw [HO2.out]
    clear hm hgd hlen hr0 hi
    go_enter Try.func13, Try.ntmps13
    go_wp2_with (first
      | ((with_reducible refine at_box (T := 26) (dst := some 1) ?_); refine wl_newb rfl (rowW now sv) 26 (fun _ => rfl) ?_; intro b1 w2 hm2; replace hv := hv.madeAt hm2; clear hm2)
      | ((with_reducible refine at_alloc (T := 4) (dst := some 2) ?_); refine wl_newb rfl #[.bool false] 4 (fun _ => rfl) ?_; intro b2 w2 hm2; replace hv := hv.madeAt hm2; clear hm2)
      | ((with_reducible refine at_load (T := 22) ?_); refine wl_ldc rfl b1 0 rfl _ (hv.vars.row (by first | exact .head _ | exact .tail _ (.head _) | exact .tail _ (.tail _ (.head _)) | exact .tail _ (.tail _ (.tail _ (.head _))) | exact .tail _ (.tail _ (.tail _ (.tail _ (.head _)))) | exact .tail _ (.tail _ (.tail _ (.tail _ (.tail _ (.head _))))) | exact .tail _ (.tail _ (.tail _ (.tail _ (.tail _ (.tail _ (.head _)))))) | exact .tail _ (.tail _ (.tail _ (.tail _ (.tail _ (.tail _ (.tail _ (.head _))))))))) _ Try.underlying22 rfl (.int .u64 (now : Nat)) HC.out ?_)
      | ((with_reducible refine at_store (T := 4) ?_); refine wl_stc rfl _ _ rfl _ rfl _ (hv.vars.row (by first | exact .head _ | exact .tail _ (.head _) | exact .tail _ (.tail _ (.head _)) | exact .tail _ (.tail _ (.tail _ (.head _))) | exact .tail _ (.tail _ (.tail _ (.tail _ (.head _)))) | exact .tail _ (.tail _ (.tail _ (.tail _ (.tail _ (.head _))))) | exact .tail _ (.tail _ (.tail _ (.tail _ (.tail _ (.tail _ (.head _)))))) | exact .tail _ (.tail _ (.tail _ (.tail _ (.tail _ (.tail _ (.tail _ (.head _))))))))) (hv.vars.sft (by first | exact .head _ | exact .tail _ (.head _) | exact .tail _ (.tail _ (.head _)) | exact .tail _ (.tail _ (.tail _ (.head _))) | exact .tail _ (.tail _ (.tail _ (.tail _ (.head _)))) | exact .tail _ (.tail _ (.tail _ (.tail _ (.tail _ (.head _))))) | exact .tail _ (.tail _ (.tail _ (.tail _ (.tail _ (.tail _ (.head _)))))) | exact .tail _ (.tail _ (.tail _ (.tail _ (.tail _ (.tail _ (.tail _ (.head _))))))))) (by kernel_rfl) rfl (by decide) ?_; intro w2 hw2; (first | (replace hv := hv.set 0 rfl hw2) | (replace hv := hv.set 1 rfl hw2) | (replace hv := hv.set 2 rfl hw2) | (replace hv := hv.set 3 rfl hw2)); clear hw2; simp only [List.set] at hv))
    try simp only [Exit.inBlock, Exit.then]
    exact ret_cell1 (v := .bool false) rfl rfl (run_loadCell Try.underlying4 rfl (hv.vars.row (b := b2) (by first | exact .head _ | exact .tail _ (.head _) | exact .tail _ (.tail _ (.head _)) | exact .tail _ (.tail _ (.tail _ (.head _))) | exact .tail _ (.tail _ (.tail _ (.tail _ (.head _)))) | exact .tail _ (.tail _ (.tail _ (.tail _ (.tail _ (.head _))))) | exact .tail _ (.tail _ (.tail _ (.tail _ (.tail _ (.tail _ (.head _)))))) | exact .tail _ (.tail _ (.tail _ (.tail _ (.tail _ (.tail _ (.tail _ (.head _))))))))) rfl) rfl ⟨rfl, hv.below⟩
  · exact callsIn_wide.1 (Check_ok now sv S hgd hlen w R hr0 hi hm)
end Go.Proofs.Ytfblognifnnadaa
