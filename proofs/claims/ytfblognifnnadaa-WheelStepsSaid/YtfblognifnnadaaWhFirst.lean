/-
  Nothing comes ahead of the next time, and something then.
-/
import Derived.Test.YtfblognifnnadaaWhHead
import Derived.Test.YtfblognifnnadaaWhLeft
set_option linter.unusedVariables false
set_option linter.unusedSimpArgs false
namespace Go.Proofs.Ytfblognifnnadaa
open Go.Proofs.Wh Go.RowKit Go.Proofs
theorem Few_M {w0 w : World} {L : List (Nat × Array Value)} {R : List (Nat × Value × List Value)} {now : Nat} {sv : List Value} {S : List (List Tm)} (hv : Mem w0 w L R) (hi : InW R sv S) {b : Bool} (hb : fewW S = b) : Calls Try.prog 6 #[.agg (rowW now sv)] w fun e w' => e = .returned (.bool b) ∧ New w w' := by
  subst hb
  exact WFew_any now sv S w0 w L R hv hi
theorem RChk_M {w0 w : World} {L : List (Nat × Array Value)} {R : List (Nat × Value × List Value)} {now : Nat} {sv : List Value} {S : List (List Tm)} (hv : Mem w0 w L R) (hi : InW R sv S) (hl : ∀ l ∈ S, l.length ≤ 1000) {b : Bool} (hb : chkW now S = b) : Calls Try.prog 7 #[.agg (rowW now sv)] w fun e w' => e = .returned (.bool b) ∧ New w w' := by
  subst hb
  exact RCheck_any now sv S w0 w L R hv hi hl
theorem Adv_law {w0 w : World} {L : List (Nat × Array Value)} {R : List (Nat × Value × List Value)} {now : Nat} {sv : List Value} {S : List (List Tm)} (hv : Mem w0 w L R) (hi : InW R sv S) (hok : OkS S) (hc : chkW now S = true) (nw : Nat) (h2 : nw ≤ MaxT) {nm : Nat} (hm : max now nw = nm) :
    Calls Try.prog 10 #[.agg (rowW now sv), .int .u64 (nw : Nat)] w fun e w' => ∃ sv' va vn vc cs R', e = .returned (.tuple #[.agg (rowW nm sv'), .slice va vn vc]) ∧ Mem w0 w' L R' ∧ InW R' sv' (S.map (leftF nm)) ∧ (1, .slice va vn vc, idsI cs) ∈ R' ∧ cs.length = vn ∧ cs.Perm (cameF nw S.flatten) ∧ Srt cs ∧ ∀ x ∈ R, x ∈ R' := by
  subst hm
  by_cases h : nw ≤ now
  · refine (Advance_no now nw sv S w R (fun x hx => (hv.rds x hx).1) hi h).mono ?_
    rintro e w' ⟨rfl, hn⟩
    rw [Nat.max_eq_left h, left_same (fun t ht => (chkW_all hc t ht).1)]
    refine ⟨sv, none, 0, 0, [], (1, .slice none 0 0, []) :: R, rfl, hv.lift (R1 := [(1, .slice none 0 0, [])]) hn (fun x hx => ?_), hi.cons _, List.mem_cons_self .., rfl, ?_, List.Pairwise.nil, fun x hx => List.mem_cons_of_mem _ hx⟩
    · rw [List.mem_singleton.1 hx]
      exact ⟨Rd.nil _ _, fun h => (h rfl).elim⟩
    · rw [came_empty (fun t ht => Nat.lt_of_le_of_lt h (chkW_all hc t ht).1)]
  · refine (Advance_yes now nw sv S hok.1 hok.2 w R (fun x hx => (hv.rds x hx).1) hi (by unfold advB; rw [hc, decide_eq_true h2, decide_eq_true (by omega)]; rfl)).mono ?_
    rintro e w' ⟨sv', R', v, cs, rfl, g1, g2, g3, g4, g5, g6, g7⟩
    rw [Nat.max_eq_right (by omega)]
    have hr := g2 _ g5
    obtain ⟨va, vn, vc, e, gl, _⟩ := id hr
    simp only at e
    subst e
    rw [idsI_len, Nat.mul_one] at gl
    exact ⟨sv', va, vn, vc, cs, R' ++ R, rfl, hv.lift g1 fun x hx => ⟨g2 x hx, g3 x hx⟩, g4, List.mem_append_left _ g5, gl, g6, g7, fun x hx => List.mem_append_right _ hx⟩
set_option maxRecDepth 100000 in
set_option maxHeartbeats 4000000 in
theorem First_few (now : Nat) (sv : List Value) (S : List (List Tm)) (w : World) (R : List (Nat × Value × List Value)) (hr0 : ∀ x ∈ R, Rd w x.1 x.2.1 x.2.2) (hi : InW R sv S) (hf : fewW S = false) : Calls Try.prog 3 #[.agg (rowW now sv)] w fun e w' => e = .returned (.bool true) ∧ New w w' := by
  have hv := Mem.all hr0
  have HI := Lib.hid hi
  have HF := Lib.hid hf
  clear hr0 hi hf
  go_enter Try.func3, Try.ntmps3
  go_wp2_with (first
    | ((with_reducible refine at_box (T := 26) (dst := some 1) ?_); refine wl_newb rfl (rowW now sv) 26 (fun _ => rfl) ?_; intro b1 w2 hm2; replace hv := hv.madeAt hm2; clear hm2)
    | ((with_reducible refine at_load (T := 26) ?_); refine wl_ldv rfl b1 rfl _ (hv.vars.row (by first | exact .head _ | exact .tail _ (.head _) | exact .tail _ (.tail _ (.head _)) | exact .tail _ (.tail _ (.tail _ (.head _))) | exact .tail _ (.tail _ (.tail _ (.tail _ (.head _)))) | exact .tail _ (.tail _ (.tail _ (.tail _ (.tail _ (.head _))))) | exact .tail _ (.tail _ (.tail _ (.tail _ (.tail _ (.tail _ (.head _)))))) | exact .tail _ (.tail _ (.tail _ (.tail _ (.tail _ (.tail _ (.tail _ (.head _))))))))) 9 _ Try.underlying26 rfl infoWh (by decide) (rowW_size HI.out.1) ?_)
    | (go_at_call 6; (with_reducible refine (Few_M hv HI.out (b := false) HF.out).mono ?_); rintro e w1 ⟨rfl, hn1⟩; replace hv := hv.new hn1; clear hn1)
    | (go_at_call 8; (with_reducible refine (heads16 _).mono ?_); rintro e w1 ⟨rfl, hn1⟩; replace hv := hv.new hn1; clear hn1))
  go_ret
  exact ⟨rfl, hv.below⟩
set_option maxRecDepth 100000 in
set_option maxHeartbeats 4000000 in
theorem First_chk (now : Nat) (sv : List Value) (S : List (List Tm)) (w : World) (R : List (Nat × Value × List Value)) (hr0 : ∀ x ∈ R, Rd w x.1 x.2.1 x.2.2) (hi : InW R sv S) (hf : fewW S = true) (hc : chkW now S = false) : Calls Try.prog 3 #[.agg (rowW now sv)] w fun e w' => e = .returned (.bool true) ∧ New w w' := by
  have hv := Mem.all hr0
  have HI := Lib.hid hi
  have HF := Lib.hid hf
  have HL6 : Hid (∀ l ∈ S, l.length ≤ 1000) := Lib.hid (few_len hf)
  have HC := Lib.hid hc
  clear hr0 hi hf hc
  go_enter Try.func3, Try.ntmps3
  go_wp2_with (first
    | ((with_reducible refine at_box (T := 26) (dst := some 1) ?_); refine wl_newb rfl (rowW now sv) 26 (fun _ => rfl) ?_; intro b1 w2 hm2; replace hv := hv.madeAt hm2; clear hm2)
    | ((with_reducible refine at_load (T := 26) ?_); refine wl_ldv rfl b1 rfl _ (hv.vars.row (by first | exact .head _ | exact .tail _ (.head _) | exact .tail _ (.tail _ (.head _)) | exact .tail _ (.tail _ (.tail _ (.head _))) | exact .tail _ (.tail _ (.tail _ (.tail _ (.head _)))) | exact .tail _ (.tail _ (.tail _ (.tail _ (.tail _ (.head _))))) | exact .tail _ (.tail _ (.tail _ (.tail _ (.tail _ (.tail _ (.head _)))))) | exact .tail _ (.tail _ (.tail _ (.tail _ (.tail _ (.tail _ (.tail _ (.head _))))))))) 9 _ Try.underlying26 rfl infoWh (by decide) (rowW_size HI.out.1) ?_)
    | (go_at_call 6; (with_reducible refine (Few_M hv HI.out (b := true) HF.out).mono ?_); rintro e w1 ⟨rfl, hn1⟩; replace hv := hv.new hn1; clear hn1)
    | (go_at_call 7; (with_reducible refine (RChk_M hv HI.out HL6.out (b := false) HC.out).mono ?_); rintro e w1 ⟨rfl, hn1⟩; replace hv := hv.new hn1; clear hn1)
    | (go_at_call 8; (with_reducible refine (heads16 _).mono ?_); rintro e w1 ⟨rfl, hn1⟩; replace hv := hv.new hn1; clear hn1))
  go_ret
  exact ⟨rfl, hv.below⟩
theorem Adv_law' {w0 w : World} {L : List (Nat × Array Value)} {R : List (Nat × Value × List Value)} {now : Nat} {sv : List Value} {S : List (List Tm)} (hv : Mem w0 w L R) (hi : InW R sv S) (hok : OkS S) (hc : chkW now S = true) {nwi : Int} (nw : Nat) (ht : nwi = (nw : Nat)) (h2 : nw ≤ MaxT) {nm : Nat} (hm : max now nw = nm) :
    Calls Try.prog 10 #[.agg (rowW now sv), .int .u64 nwi] w fun e w' => ∃ sv' va vn vc cs R', e = .returned (.tuple #[.agg (rowW nm sv'), .slice va vn vc]) ∧ Mem w0 w' L R' ∧ InW R' sv' (S.map (leftF nm)) ∧ (1, .slice va vn vc, idsI cs) ∈ R' ∧ cs.length = vn ∧ cs.Perm (cameF nw S.flatten) ∧ Srt cs ∧ ∀ x ∈ R, x ∈ R' := by
  subst ht
  exact Adv_law hv hi hok hc nw h2 hm
set_option maxRecDepth 100000 in
set_option maxHeartbeats 4000000 in
theorem First_none (now : Nat) (sv : List Value) (S : List (List Tm)) (w : World) (R : List (Nat × Value × List Value)) (hr0 : ∀ x ∈ R, Rd w x.1 x.2.1 x.2.2) (hi : InW R sv S) (hgd : ∀ l ∈ S, ∀ t ∈ l, (Lit.int .i64 t.2).wf = true) (hf : fewW S = true) (hc : chkW now S = true) (ho : nextF none S.flatten = none) : Calls Try.prog 3 #[.agg (rowW now sv)] w fun e w' => e = .returned (.bool true) ∧ New w w' := by
  have hv := Mem.all hr0
  have HI := Lib.hid hi
  have HF := Lib.hid hf
  have HL6 : Hid (∀ l ∈ S, l.length ≤ 1000) := Lib.hid (few_len hf)
  have HC := Lib.hid hc
  have HOK : Hid (OkS S) := Lib.hid ⟨hgd, few_len hf⟩
  have HNX : Hid (nextV now S = none) := Lib.hid (by unfold nextV; rw [if_pos hc, ho])
  have HNL : Hid (cameF 1099511627776 S.flatten = []) := Lib.hid (by rw [nextF_none.1 ho]; rfl)
  clear hr0 hi hf hc hgd ho
  go_enter Try.func3, Try.ntmps3
  go_wp2_with (first
    | ((with_reducible refine at_box (T := 26) (dst := some 1) ?_); refine wl_newb rfl (rowW now sv) 26 (fun _ => rfl) ?_; intro b1 w2 hm2; replace hv := hv.madeAt hm2; clear hm2)
    | ((with_reducible refine at_load (T := 26) ?_); refine wl_ldv rfl b1 rfl _ (hv.vars.row (by first | exact .head _ | exact .tail _ (.head _) | exact .tail _ (.tail _ (.head _)) | exact .tail _ (.tail _ (.tail _ (.head _))) | exact .tail _ (.tail _ (.tail _ (.tail _ (.head _)))) | exact .tail _ (.tail _ (.tail _ (.tail _ (.tail _ (.head _))))) | exact .tail _ (.tail _ (.tail _ (.tail _ (.tail _ (.tail _ (.head _)))))) | exact .tail _ (.tail _ (.tail _ (.tail _ (.tail _ (.tail _ (.tail _ (.head _))))))))) 9 _ Try.underlying26 rfl infoWh (by decide) (rowW_size HI.out.1) ?_)
    | (go_at_call 6; (with_reducible refine (Few_M hv HI.out (b := true) HF.out).mono ?_); rintro e w1 ⟨rfl, hn1⟩; replace hv := hv.new hn1; clear hn1)
    | (go_at_call 7; (with_reducible refine (RChk_M hv HI.out HL6.out (b := true) HC.out).mono ?_); rintro e w1 ⟨rfl, hn1⟩; replace hv := hv.new hn1; clear hn1)
    | (go_at_call 9; (with_reducible refine (Next_M hv HI.out HOK.out HNX.out (n := 0) (b := false) rfl rfl).mono ?_); rintro e w1 ⟨rfl, hn1⟩; replace hv := hv.new hn1; clear hn1)
    | (go_at_call 10; (with_reducible refine (Adv_law' hv HI.out HOK.out HC.out (nwi := 1099511627776) 1099511627776 rfl (by unfold MaxT; omega) rfl).mono ?_); rintro e w1 ⟨sv5, va5, vn5, vc5, cs5, R5, rfl, hv1, hi1, hx1, hl1, hp1, hs1, hs⟩; replace hv := hv1; have HI5 := Lib.hid hi1; rw [HNL.out] at hp1; obtain rfl := List.perm_nil.1 hp1; obtain rfl : 0 = vn5 := hl1; clear hv1 hi1 hx1 hp1 hs1 hs)
    | ((with_reducible refine at_alloc (T := 26) (dst := some 5) ?_); refine wl_newb rfl (rowW 0 nilW) 26 (fun _ => rfl) ?_; intro b5 w2 hm2; replace hv := hv.madeAt hm2; clear hm2)
    | ((with_reducible refine at_store (T := 26) ?_); refine wl_stv rfl b5 rfl _ rfl _ (hv.vars.row (by first | exact .head _ | exact .tail _ (.head _) | exact .tail _ (.tail _ (.head _)) | exact .tail _ (.tail _ (.tail _ (.head _))) | exact .tail _ (.tail _ (.tail _ (.tail _ (.head _)))) | exact .tail _ (.tail _ (.tail _ (.tail _ (.tail _ (.head _))))) | exact .tail _ (.tail _ (.tail _ (.tail _ (.tail _ (.tail _ (.head _)))))) | exact .tail _ (.tail _ (.tail _ (.tail _ (.tail _ (.tail _ (.tail _ (.head _))))))))) (hv.vars.sft (by first | exact .head _ | exact .tail _ (.head _) | exact .tail _ (.tail _ (.head _)) | exact .tail _ (.tail _ (.tail _ (.head _))) | exact .tail _ (.tail _ (.tail _ (.tail _ (.head _)))) | exact .tail _ (.tail _ (.tail _ (.tail _ (.tail _ (.head _))))) | exact .tail _ (.tail _ (.tail _ (.tail _ (.tail _ (.tail _ (.head _)))))) | exact .tail _ (.tail _ (.tail _ (.tail _ (.tail _ (.tail _ (.tail _ (.head _))))))))) 9 infoWh (rowW_size HI5.out.1) rfl (rowW_one (now := (max now 1099511627776)) hv HI5.out) ?_; intro w2 hw2; (first | (replace hv := hv.set 0 rfl hw2) | (replace hv := hv.set 1 rfl hw2) | (replace hv := hv.set 2 rfl hw2) | (replace hv := hv.set 3 rfl hw2)); clear hw2; simp only [List.set] at hv)
    | (go_at_call 8; (with_reducible refine (heads16 _).mono ?_); rintro e w1 ⟨rfl, hn1⟩; replace hv := hv.new hn1; clear hn1))
  go_ret
  exact ⟨rfl, hv.below⟩
set_option maxRecDepth 100000 in
set_option maxHeartbeats 4000000 in
theorem First_some (now : Nat) (sv : List Value) (S : List (List Tm)) (w : World) (R : List (Nat × Value × List Value)) (hr0 : ∀ x ∈ R, Rd w x.1 x.2.1 x.2.2) (hi : InW R sv S) (hgd : ∀ l ∈ S, ∀ t ∈ l, (Lit.int .i64 t.2).wf = true) (hf : fewW S = true) (hc : chkW now S = true) (b : Nat) (ho : nextF none S.flatten = some b) : Calls Try.prog 3 #[.agg (rowW now sv)] w fun e w' => e = .returned (.bool true) ∧ New w w' := by
  have hv := Mem.all hr0
  have HI := Lib.hid hi
  have HF := Lib.hid hf
  have HL6 : Hid (∀ l ∈ S, l.length ≤ 1000) := Lib.hid (few_len hf)
  have HC := Lib.hid hc
  have HOK : Hid (OkS S) := Lib.hid ⟨hgd, few_len hf⟩
  have HNX : Hid (nextV now S = some b) := Lib.hid (by unfold nextV; rw [if_pos hc, ho])
  have hb1 : now < b ∧ b ≤ 1099511627776 := by
    obtain ⟨t, ht, e⟩ := (nextF_first ho).2
    have := chkW_all hc t ht
    unfold MaxT at this
    omega
  have hall : ∀ t ∈ S.flatten, b - 1 < t.1 := fun t ht => by
    have := (nextF_first ho).1 t ht
    omega
  have HB1 : Hid (b - 1 ≤ MaxT) := Lib.hid (by unfold MaxT; omega)
  have HB2 : Hid (b ≤ MaxT) := Lib.hid (by unfold MaxT; omega)
  have HM1 : Hid (max now (b - 1) = b - 1) := Lib.hid (Nat.max_eq_right (by omega))
  have HM2 : Hid (max (b - 1) b = b) := Lib.hid (Nat.max_eq_right (by omega))
  have HS1 : Hid (S.map (leftF (b - 1)) = S) := Lib.hid (left_same hall)
  have HE1 : Hid (cameF (b - 1) S.flatten = []) := Lib.hid (came_empty hall)
  have HC2 : Hid (chkW (b - 1) S = true) := Lib.hid (by
    have := chk_left hc HB1.out
    rw [HS1.out] at this; exact this)
  have HE2 : Hid (0 < (cameF b S.flatten).length) := Lib.hid (List.length_pos_iff.2 (came_some ho))
  have HNOW : Hid ((((rowW now sv)) : Array Value)[0]? = some (.int .u64 (now : Nat))) := Lib.hid rfl
  have y1 : decide ((now : Int) < (b : Int)) = true := decide_eq_true (by omega)
  have z1 : decide (now < b) = true := decide_eq_true (by omega)
  have y2 : IntKind.u64.wrap ((b : Int) - 1) = ((b - 1 : Nat) : Int) := by rw [IntWalk.u64_in _ (by omega)]; omega
  clear hr0 hi hf hc hgd ho hb1 hall
  go_enter Try.func3, Try.ntmps3
  go_wp2_with (first
    | ((with_reducible refine at_box (T := 26) (dst := some 1) ?_); refine wl_newb rfl (rowW now sv) 26 (fun _ => rfl) ?_; intro b1 w2 hm2; replace hv := hv.madeAt hm2; clear hm2)
    | ((with_reducible refine at_load (T := 26) ?_); refine wl_ldv rfl b1 rfl _ (hv.vars.row (by first | exact .head _ | exact .tail _ (.head _) | exact .tail _ (.tail _ (.head _)) | exact .tail _ (.tail _ (.tail _ (.head _))) | exact .tail _ (.tail _ (.tail _ (.tail _ (.head _)))) | exact .tail _ (.tail _ (.tail _ (.tail _ (.tail _ (.head _))))) | exact .tail _ (.tail _ (.tail _ (.tail _ (.tail _ (.tail _ (.head _)))))) | exact .tail _ (.tail _ (.tail _ (.tail _ (.tail _ (.tail _ (.tail _ (.head _))))))))) 9 _ Try.underlying26 rfl infoWh (by decide) (rowW_size HI.out.1) ?_)
    | (go_at_call 6; (with_reducible refine (Few_M hv HI.out (b := true) HF.out).mono ?_); rintro e w1 ⟨rfl, hn1⟩; replace hv := hv.new hn1; clear hn1)
    | (go_at_call 7; (with_reducible refine (RChk_M hv HI.out HL6.out (b := true) HC.out).mono ?_); rintro e w1 ⟨rfl, hn1⟩; replace hv := hv.new hn1; clear hn1)
    | (go_at_call 9; (with_reducible refine (Next_M hv HI.out HOK.out HNX.out (n := (b : Int)) (b := true) rfl rfl).mono ?_); rintro e w1 ⟨rfl, hn1⟩; replace hv := hv.new hn1; clear hn1)
    | (go_at_call 10; (with_reducible refine (Adv_law' hv HI.out HOK.out HC.out (nwi := ((b - 1 : Nat) : Int)) (b - 1) rfl HB1.out HM1.out).mono ?_); rintro e w1 ⟨sv7, va7, vn7, vc7, cs7, R7, rfl, hv1, hi1, hx1, hl1, hp1, hs1, hs⟩; replace hv := hv1; rw [HS1.out] at hi1; have HI7 := Lib.hid hi1; rw [HE1.out] at hp1; obtain rfl := List.perm_nil.1 hp1; obtain rfl : 0 = vn7 := hl1; clear hv1 hi1 hx1 hp1 hs1 hs)
    | ((with_reducible refine at_alloc (T := 26) (dst := some 7) ?_); refine wl_newb rfl (rowW 0 nilW) 26 (fun _ => rfl) ?_; intro b7 w2 hm2; replace hv := hv.madeAt hm2; clear hm2)
    | ((with_reducible refine at_store (T := 26) ?_); refine wl_stv rfl b7 rfl _ rfl _ (hv.vars.row (by first | exact .head _ | exact .tail _ (.head _) | exact .tail _ (.tail _ (.head _)) | exact .tail _ (.tail _ (.tail _ (.head _))) | exact .tail _ (.tail _ (.tail _ (.tail _ (.head _)))) | exact .tail _ (.tail _ (.tail _ (.tail _ (.tail _ (.head _))))) | exact .tail _ (.tail _ (.tail _ (.tail _ (.tail _ (.tail _ (.head _)))))) | exact .tail _ (.tail _ (.tail _ (.tail _ (.tail _ (.tail _ (.tail _ (.head _))))))))) (hv.vars.sft (by first | exact .head _ | exact .tail _ (.head _) | exact .tail _ (.tail _ (.head _)) | exact .tail _ (.tail _ (.tail _ (.head _))) | exact .tail _ (.tail _ (.tail _ (.tail _ (.head _)))) | exact .tail _ (.tail _ (.tail _ (.tail _ (.tail _ (.head _))))) | exact .tail _ (.tail _ (.tail _ (.tail _ (.tail _ (.tail _ (.head _)))))) | exact .tail _ (.tail _ (.tail _ (.tail _ (.tail _ (.tail _ (.tail _ (.head _))))))))) 9 infoWh (rowW_size HI7.out.1) rfl (rowW_one (now := (b - 1)) hv HI7.out) ?_; intro w2 hw2; (first | (replace hv := hv.set 0 rfl hw2) | (replace hv := hv.set 1 rfl hw2) | (replace hv := hv.set 2 rfl hw2) | (replace hv := hv.set 3 rfl hw2)); clear hw2; simp only [List.set] at hv)
    | ((with_reducible refine at_load (T := 26) ?_); refine wl_ldv rfl b7 rfl _ (hv.vars.row (by first | exact .head _ | exact .tail _ (.head _) | exact .tail _ (.tail _ (.head _)) | exact .tail _ (.tail _ (.tail _ (.head _))) | exact .tail _ (.tail _ (.tail _ (.tail _ (.head _)))) | exact .tail _ (.tail _ (.tail _ (.tail _ (.tail _ (.head _))))) | exact .tail _ (.tail _ (.tail _ (.tail _ (.tail _ (.tail _ (.head _)))))) | exact .tail _ (.tail _ (.tail _ (.tail _ (.tail _ (.tail _ (.tail _ (.head _))))))))) 9 _ Try.underlying26 rfl infoWh (by decide) (rowW_size HI7.out.1) ?_)
    | (go_at_call 10; (with_reducible refine (Adv_law' hv HI7.out HOK.out HC2.out (nwi := (b : Int)) b rfl HB2.out HM2.out).mono ?_); rintro e w1 ⟨sv9, va9, vn9, vc9, cs9, R9, rfl, hv1, hi1, hx1, hl1, hp1, hs1, hs⟩; replace hv := hv1; have HI9 := Lib.hid hi1; have yn : decide ((0 : Int) < (vn9 : Int)) = true := decide_eq_true (by have h9 := hp1.length_eq; have h8 := HE2.out; rw [hl1] at h9; omega); have yn2 : decide (0 < vn9) = true := decide_eq_true (by have := of_decide_eq_true yn; omega); have yn3 : (0 : Int) < (vn9 : Int) := of_decide_eq_true yn; clear hv1 hi1 hx1 hl1 hp1 hs1 hs)
    | ((with_reducible refine at_alloc (T := 26) (dst := some 9) ?_); refine wl_newb rfl (rowW 0 nilW) 26 (fun _ => rfl) ?_; intro b9 w2 hm2; replace hv := hv.madeAt hm2; clear hm2)
    | ((with_reducible refine at_store (T := 26) ?_); refine wl_stv rfl b9 rfl _ rfl _ (hv.vars.row (by first | exact .head _ | exact .tail _ (.head _) | exact .tail _ (.tail _ (.head _)) | exact .tail _ (.tail _ (.tail _ (.head _))) | exact .tail _ (.tail _ (.tail _ (.tail _ (.head _)))) | exact .tail _ (.tail _ (.tail _ (.tail _ (.tail _ (.head _))))) | exact .tail _ (.tail _ (.tail _ (.tail _ (.tail _ (.tail _ (.head _)))))) | exact .tail _ (.tail _ (.tail _ (.tail _ (.tail _ (.tail _ (.tail _ (.head _))))))))) (hv.vars.sft (by first | exact .head _ | exact .tail _ (.head _) | exact .tail _ (.tail _ (.head _)) | exact .tail _ (.tail _ (.tail _ (.head _))) | exact .tail _ (.tail _ (.tail _ (.tail _ (.head _)))) | exact .tail _ (.tail _ (.tail _ (.tail _ (.tail _ (.head _))))) | exact .tail _ (.tail _ (.tail _ (.tail _ (.tail _ (.tail _ (.head _)))))) | exact .tail _ (.tail _ (.tail _ (.tail _ (.tail _ (.tail _ (.tail _ (.head _))))))))) 9 infoWh (rowW_size HI9.out.1) rfl (rowW_one (now := b) hv HI9.out) ?_; intro w2 hw2; (first | (replace hv := hv.set 0 rfl hw2) | (replace hv := hv.set 1 rfl hw2) | (replace hv := hv.set 2 rfl hw2) | (replace hv := hv.set 3 rfl hw2)); clear hw2; simp only [List.set] at hv)
    | ((with_reducible refine at_load (T := 22) ?_); refine wl_ldc rfl b1 0 rfl _ (hv.vars.row (by first | exact .head _ | exact .tail _ (.head _) | exact .tail _ (.tail _ (.head _)) | exact .tail _ (.tail _ (.tail _ (.head _))) | exact .tail _ (.tail _ (.tail _ (.tail _ (.head _)))) | exact .tail _ (.tail _ (.tail _ (.tail _ (.tail _ (.head _))))) | exact .tail _ (.tail _ (.tail _ (.tail _ (.tail _ (.tail _ (.head _)))))) | exact .tail _ (.tail _ (.tail _ (.tail _ (.tail _ (.tail _ (.tail _ (.head _))))))))) _ Try.underlying22 rfl (.int .u64 (now : Nat)) HNOW.out ?_)
    | (go_at_call 8; (with_reducible refine (heads16 _).mono ?_); rintro e w1 ⟨rfl, hn1⟩; replace hv := hv.new hn1; clear hn1))
  go_ret
  exact ⟨rfl, hv.below⟩
theorem WheelFirst_any (now : Nat) (sv : List Value) (S : List (List Tm)) (w : World) (R : List (Nat × Value × List Value)) (hr0 : ∀ x ∈ R, Rd w x.1 x.2.1 x.2.2) (hi : InW R sv S) (hgd : ∀ l ∈ S, ∀ t ∈ l, (Lit.int .i64 t.2).wf = true) : Calls Try.prog 3 #[.agg (rowW now sv)] w fun e w' => e = .returned (.bool true) ∧ New w w' := by
  cases hf : fewW S with
  | false => exact First_few now sv S w R hr0 hi hf
  | true =>
    cases hc : chkW now S with
    | false => exact First_chk now sv S w R hr0 hi hf hc
    | true =>
      cases ho : nextF none S.flatten with
      | none => exact First_none now sv S w R hr0 hi hgd hf hc ho
      | some b => exact First_some now sv S w R hr0 hi hgd hf hc b ho
end Go.Proofs.Ytfblognifnnadaa
