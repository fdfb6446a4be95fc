/-
  In how many steps time goes on does not matter.
-/
import Derived.Test.YtfblognifnnadaaWhFirst
set_option linter.unusedVariables false
set_option linter.unusedSimpArgs false
namespace Go.Proofs.Wh
open Go Go.RowKit
theorem step_ok {nk tt nm : Nat} {l acc cs : List Tm} (hm : max nk tt = nm) (h1 : acc.Perm (cameF nk l) ∧ Srt acc) (h2 : cs.Perm (cameF tt (leftF nk l))) (h3 : Srt cs) : (acc ++ cs).Perm (cameF nm l) ∧ Srt (acc ++ cs) := by
  subst hm
  refine ⟨?_, srt_step h1.1 h2 h1.2 h3⟩
  rcases Nat.le_total tt nk with h | h
  · rw [Nat.max_eq_left h]
    have e : cameF tt (leftF nk l) = [] := came_empty fun t ht => by
      unfold leftF at ht
      have := (List.mem_filter.1 ht).2
      simp only [Bool.not_eq_true', decide_eq_false_iff_not] at this
      omega
    rw [e] at h2
    obtain rfl := List.perm_nil.1 h2
    rw [List.append_nil]
    exact h1.1
  · rw [Nat.max_eq_right h]
    exact (h1.1.append h2).trans (came_step h l)
theorem OkS.left {S : List (List Tm)} (h : OkS S) (n : Nat) : OkS (S.map (leftF n)) := by
  refine ⟨fun l hl t ht => ?_, fun l hl => ?_⟩
  · obtain ⟨l', h1, rfl⟩ := List.mem_map.1 hl
    exact h.1 l' h1 t (List.mem_filter.1 ht).1
  · obtain ⟨l', h1, rfl⟩ := List.mem_map.1 hl
    exact Nat.le_trans (List.length_filter_le _ _) (h.2 l' h1)
theorem idsI_one (l : List Tm) : ∀ x ∈ idsI l, x.oneCell' = true := fun x hx => by
  unfold idsI at hx
  obtain ⟨t, _, rfl⟩ := List.mem_map.1 hx
  rfl
theorem idsI_app (l m : List Tm) : idsI (l ++ m) = idsI l ++ idsI m := by unfold idsI; exact List.map_append ..
theorem came_le (n : Nat) (l : List Tm) : (cameF n l).length ≤ l.length := List.length_filter_le _ _
theorem mem4 {w0 w : World} {a b c d : Nat × Array Value} {O : List (Nat × Array Value)} {R : List (Nat × Value × List Value)} (h : Mem w0 w (a :: b :: c :: d :: O) R) : Mem w0 w ([a, b, c, d] ++ O ++ []) R := by simpa using h
theorem mem4' {w0 w : World} {a b c d : Nat × Array Value} {O : List (Nat × Array Value)} {R : List (Nat × Value × List Value)} (h : Mem w0 w ([a, b, c, d] ++ O ++ []) R) : Mem w0 w (a :: b :: c :: d :: O) R := by simpa using h
theorem len32 {nk : Nat} {now : Nat} {S : List (List Tm)} {acc : List Tm} (hc : chkW now S = true) (h : acc.Perm (cameF nk S.flatten)) : acc.length ≤ 32 := by
  unfold chkW at hc
  simp only [Bool.and_eq_true, decide_eq_true_eq] at hc
  rw [h.length_eq]
  exact Nat.le_trans (came_le _ _) hc.1.1.2
theorem leftnow {now : Nat} {S : List (List Tm)} (hc : chkW now S = true) : S.map (leftF now) = S := left_same fun t ht => (chkW_all hc t ht).1
theorem camenow {now : Nat} {S : List (List Tm)} (hc : chkW now S = true) : cameF now S.flatten = [] := came_empty fun t ht => (chkW_all hc t ht).1
end Go.Proofs.Wh
namespace Go.Proofs.Ytfblognifnnadaa
open Go.Proofs.Wh Go.RowKit Go.Proofs
theorem Ints_r {u v : Value} {l : List Tm} (hl : l.length ≤ 100000) {w : World} (hu : Rd w 1 u (idsI l)) (hv : Rd w 1 v (idsI l)) : Calls Try.prog 11 #[u, v] w fun e w' => e = .returned (.bool true) ∧ New w w' := by
  have e : idsI l = (l.map (·.2)).map (Value.int .i64) := by unfold idsI; rw [List.map_map]; rfl
  rw [e] at hu hv
  exact Ints_alike u v (l.map (·.2)) (by rw [List.length_map]; exact hl) w hu hv
theorem Same_M {w0 w : World} {L : List (Nat × Array Value)} {R : List (Nat × Value × List Value)} {now : Nat} {sva svb : List Value} {S : List (List Tm)} (hv : Mem w0 w L R) (hi : InW R sva S) (hj : InW R svb S) (hok : OkS S) : Calls Try.prog 12 #[.agg (rowW now sva), .agg (rowW now svb)] w fun e w' => e = .returned (.bool true) ∧ New w w' := Same_alike now sva svb S w R (fun x hx => (hv.rds x hx).1) hi hj hok.2
theorem Same_M2 {w0 w : World} {L : List (Nat × Array Value)} {R : List (Nat × Value × List Value)} {now n2 : Nat} {sva svb : List Value} {S : List (List Tm)} (hv : Mem w0 w L R) (hi : InW R sva S) (hj : InW R svb S) (hok : OkS S) (he : n2 = now) : Calls Try.prog 12 #[.agg (rowW now sva), .agg (rowW n2 svb)] w fun e w' => e = .returned (.bool true) ∧ New w w' := by
  subst he
  exact Same_M hv hi hj hok
set_option maxRecDepth 100000 in
set_option maxHeartbeats 4000000 in
theorem Steps_few (now : Nat) (sv : List Value) (S : List (List Tm)) (ta : Option Addr) (tn tc : Nat) (tl : List Nat) (en : Nat) (w : World) (R : List (Nat × Value × List Value)) (hr0 : ∀ x ∈ R, Rd w x.1 x.2.1 x.2.2) (hi : InW R sv S) (hf : fewW S = false) : Calls Try.prog 4 #[.agg (rowW now sv), .slice ta tn tc, .int .u64 (en : Nat)] w fun e w' => e = .returned (.bool true) ∧ New w w' := by
  have hv := Mem.all hr0
  have HI := Lib.hid hi
  have HF := Lib.hid hf
  clear hr0 hi hf
  go_enter Try.func4, Try.ntmps4
  go_wp2_with (first
    | ((with_reducible refine at_box (T := 26) (dst := some 3) ?_); refine wl_newb rfl (rowW now sv) 26 (fun _ => rfl) ?_; intro b3 w2 hm2; replace hv := hv.madeAt hm2; clear hm2)
    | ((with_reducible refine at_load (T := 26) ?_); refine wl_ldv rfl b3 rfl _ (hv.vars.row (by first | exact .head _ | exact .tail _ (.head _) | exact .tail _ (.tail _ (.head _)) | exact .tail _ (.tail _ (.tail _ (.head _))) | exact .tail _ (.tail _ (.tail _ (.tail _ (.head _)))) | exact .tail _ (.tail _ (.tail _ (.tail _ (.tail _ (.head _))))) | exact .tail _ (.tail _ (.tail _ (.tail _ (.tail _ (.tail _ (.head _)))))) | exact .tail _ (.tail _ (.tail _ (.tail _ (.tail _ (.tail _ (.tail _ (.head _))))))))) 9 _ Try.underlying26 rfl infoWh (by decide) (rowW_size HI.out.1) ?_)
    | (go_at_call 6; (with_reducible refine (Few_M hv HI.out (b := false) HF.out).mono ?_); rintro e w1 ⟨rfl, hn1⟩; replace hv := hv.new hn1; clear hn1)
    | (go_at_call 8; (with_reducible refine (heads16 _).mono ?_); rintro e w1 ⟨rfl, hn1⟩; replace hv := hv.new hn1; clear hn1))
  go_ret
  exact ⟨rfl, hv.below⟩
set_option maxRecDepth 100000 in
set_option maxHeartbeats 4000000 in
theorem Steps_chk (now : Nat) (sv : List Value) (S : List (List Tm)) (ta : Option Addr) (tn tc : Nat) (tl : List Nat) (en : Nat) (w : World) (R : List (Nat × Value × List Value)) (hr0 : ∀ x ∈ R, Rd w x.1 x.2.1 x.2.2) (hi : InW R sv S) (hf : fewW S = true) (hc : chkW now S = false)  : Calls Try.prog 4 #[.agg (rowW now sv), .slice ta tn tc, .int .u64 (en : Nat)] w fun e w' => e = .returned (.bool true) ∧ New w w' := by
  have hv := Mem.all hr0
  have HI := Lib.hid hi
  have HF := Lib.hid hf
  have HL6 : Hid (∀ l ∈ S, l.length ≤ 1000) := Lib.hid (few_len hf)
  have HC := Lib.hid hc
  have HNOW : Hid ((((rowW now sv)) : Array Value)[0]? = some (.int .u64 (now : Nat))) := Lib.hid rfl
  clear hr0 hi hf hc 
  go_enter Try.func4, Try.ntmps4
  go_wp2_with (first
    | ((with_reducible refine at_box (T := 26) (dst := some 3) ?_); refine wl_newb rfl (rowW now sv) 26 (fun _ => rfl) ?_; intro b3 w2 hm2; replace hv := hv.madeAt hm2; clear hm2)
    | ((with_reducible refine at_load (T := 26) ?_); refine wl_ldv rfl b3 rfl _ (hv.vars.row (by first | exact .head _ | exact .tail _ (.head _) | exact .tail _ (.tail _ (.head _)) | exact .tail _ (.tail _ (.tail _ (.head _))) | exact .tail _ (.tail _ (.tail _ (.tail _ (.head _)))) | exact .tail _ (.tail _ (.tail _ (.tail _ (.tail _ (.head _))))) | exact .tail _ (.tail _ (.tail _ (.tail _ (.tail _ (.tail _ (.head _)))))) | exact .tail _ (.tail _ (.tail _ (.tail _ (.tail _ (.tail _ (.tail _ (.head _))))))))) 9 _ Try.underlying26 rfl infoWh (by decide) (rowW_size HI.out.1) ?_)
    | (go_at_call 6; (with_reducible refine (Few_M hv HI.out (b := true) HF.out).mono ?_); rintro e w1 ⟨rfl, hn1⟩; replace hv := hv.new hn1; clear hn1)
    | (go_at_call 7; (with_reducible refine (RChk_M hv HI.out HL6.out (b := false) HC.out).mono ?_); rintro e w1 ⟨rfl, hn1⟩; replace hv := hv.new hn1; clear hn1)
    | ((with_reducible refine at_load (T := 22) ?_); refine wl_ldc rfl b3 0 rfl _ (hv.vars.row (by first | exact .head _ | exact .tail _ (.head _) | exact .tail _ (.tail _ (.head _)) | exact .tail _ (.tail _ (.tail _ (.head _))) | exact .tail _ (.tail _ (.tail _ (.tail _ (.head _)))) | exact .tail _ (.tail _ (.tail _ (.tail _ (.tail _ (.head _))))) | exact .tail _ (.tail _ (.tail _ (.tail _ (.tail _ (.tail _ (.head _)))))) | exact .tail _ (.tail _ (.tail _ (.tail _ (.tail _ (.tail _ (.tail _ (.head _))))))))) _ Try.underlying22 rfl (.int .u64 (now : Nat)) HNOW.out ?_)
    | (go_at_call 8; (with_reducible refine (heads16 _).mono ?_); rintro e w1 ⟨rfl, hn1⟩; replace hv := hv.new hn1; clear hn1))
  go_ret
  exact ⟨rfl, hv.below⟩
set_option maxRecDepth 100000 in
set_option maxHeartbeats 4000000 in
theorem Steps_long (now : Nat) (sv : List Value) (S : List (List Tm)) (ta : Option Addr) (tn tc : Nat) (tl : List Nat) (en : Nat) (w : World) (R : List (Nat × Value × List Value)) (hr0 : ∀ x ∈ R, Rd w x.1 x.2.1 x.2.2) (hi : InW R sv S) (hf : fewW S = true) (hc : chkW now S = true) (h1 : 60 < tn) : Calls Try.prog 4 #[.agg (rowW now sv), .slice ta tn tc, .int .u64 (en : Nat)] w fun e w' => e = .returned (.bool true) ∧ New w w' := by
  have hv := Mem.all hr0
  have HI := Lib.hid hi
  have HF := Lib.hid hf
  have HL6 : Hid (∀ l ∈ S, l.length ≤ 1000) := Lib.hid (few_len hf)
  have HC := Lib.hid hc
  have HNOW : Hid ((((rowW now sv)) : Array Value)[0]? = some (.int .u64 (now : Nat))) := Lib.hid rfl
  have a0 : decide ((60 : Int) < (tn : Int)) = true := decide_eq_true (by omega)
  have a0n : ((60 : Int) < (tn : Int)) := by omega
  have a0z : decide (60 < tn) = true := decide_eq_true (by omega)
  clear hr0 hi hf hc h1
  go_enter Try.func4, Try.ntmps4
  go_wp2_with (first
    | ((with_reducible refine at_box (T := 26) (dst := some 3) ?_); refine wl_newb rfl (rowW now sv) 26 (fun _ => rfl) ?_; intro b3 w2 hm2; replace hv := hv.madeAt hm2; clear hm2)
    | ((with_reducible refine at_load (T := 26) ?_); refine wl_ldv rfl b3 rfl _ (hv.vars.row (by first | exact .head _ | exact .tail _ (.head _) | exact .tail _ (.tail _ (.head _)) | exact .tail _ (.tail _ (.tail _ (.head _))) | exact .tail _ (.tail _ (.tail _ (.tail _ (.head _)))) | exact .tail _ (.tail _ (.tail _ (.tail _ (.tail _ (.head _))))) | exact .tail _ (.tail _ (.tail _ (.tail _ (.tail _ (.tail _ (.head _)))))) | exact .tail _ (.tail _ (.tail _ (.tail _ (.tail _ (.tail _ (.tail _ (.head _))))))))) 9 _ Try.underlying26 rfl infoWh (by decide) (rowW_size HI.out.1) ?_)
    | (go_at_call 6; (with_reducible refine (Few_M hv HI.out (b := true) HF.out).mono ?_); rintro e w1 ⟨rfl, hn1⟩; replace hv := hv.new hn1; clear hn1)
    | (go_at_call 7; (with_reducible refine (RChk_M hv HI.out HL6.out (b := true) HC.out).mono ?_); rintro e w1 ⟨rfl, hn1⟩; replace hv := hv.new hn1; clear hn1)
    | ((with_reducible refine at_load (T := 22) ?_); refine wl_ldc rfl b3 0 rfl _ (hv.vars.row (by first | exact .head _ | exact .tail _ (.head _) | exact .tail _ (.tail _ (.head _)) | exact .tail _ (.tail _ (.tail _ (.head _))) | exact .tail _ (.tail _ (.tail _ (.tail _ (.head _)))) | exact .tail _ (.tail _ (.tail _ (.tail _ (.tail _ (.head _))))) | exact .tail _ (.tail _ (.tail _ (.tail _ (.tail _ (.tail _ (.head _)))))) | exact .tail _ (.tail _ (.tail _ (.tail _ (.tail _ (.tail _ (.tail _ (.head _))))))))) _ Try.underlying22 rfl (.int .u64 (now : Nat)) HNOW.out ?_)
    | (go_at_call 8; (with_reducible refine (heads16 _).mono ?_); rintro e w1 ⟨rfl, hn1⟩; replace hv := hv.new hn1; clear hn1))
  go_ret
  exact ⟨rfl, hv.below⟩
set_option maxRecDepth 100000 in
set_option maxHeartbeats 4000000 in
theorem Steps_far (now : Nat) (sv : List Value) (S : List (List Tm)) (ta : Option Addr) (tn tc : Nat) (tl : List Nat) (en : Nat) (w : World) (R : List (Nat × Value × List Value)) (hr0 : ∀ x ∈ R, Rd w x.1 x.2.1 x.2.2) (hi : InW R sv S) (hf : fewW S = true) (hc : chkW now S = true) (h1 : tn ≤ 60) (h2 : 1099511627776 < en) : Calls Try.prog 4 #[.agg (rowW now sv), .slice ta tn tc, .int .u64 (en : Nat)] w fun e w' => e = .returned (.bool true) ∧ New w w' := by
  have hv := Mem.all hr0
  have HI := Lib.hid hi
  have HF := Lib.hid hf
  have HL6 : Hid (∀ l ∈ S, l.length ≤ 1000) := Lib.hid (few_len hf)
  have HC := Lib.hid hc
  have HNOW : Hid ((((rowW now sv)) : Array Value)[0]? = some (.int .u64 (now : Nat))) := Lib.hid rfl
  have a0 : decide ((60 : Int) < (tn : Int)) = false := decide_eq_false (by omega)
  have a0n : ¬ ((60 : Int) < (tn : Int)) := by omega
  have a0z : decide (60 < tn) = false := decide_eq_false (by omega)
  have c0 : decide ((1099511627776 : Int) < (en : Int)) = true := decide_eq_true (by omega)
  have c0n : ((1099511627776 : Int) < (en : Int)) := by omega
  have c0z : decide (1099511627776 < en) = true := decide_eq_true (by omega)
  clear hr0 hi hf hc h1 h2
  go_enter Try.func4, Try.ntmps4
  go_wp2_with (first
    | ((with_reducible refine at_box (T := 26) (dst := some 3) ?_); refine wl_newb rfl (rowW now sv) 26 (fun _ => rfl) ?_; intro b3 w2 hm2; replace hv := hv.madeAt hm2; clear hm2)
    | ((with_reducible refine at_load (T := 26) ?_); refine wl_ldv rfl b3 rfl _ (hv.vars.row (by first | exact .head _ | exact .tail _ (.head _) | exact .tail _ (.tail _ (.head _)) | exact .tail _ (.tail _ (.tail _ (.head _))) | exact .tail _ (.tail _ (.tail _ (.tail _ (.head _)))) | exact .tail _ (.tail _ (.tail _ (.tail _ (.tail _ (.head _))))) | exact .tail _ (.tail _ (.tail _ (.tail _ (.tail _ (.tail _ (.head _)))))) | exact .tail _ (.tail _ (.tail _ (.tail _ (.tail _ (.tail _ (.tail _ (.head _))))))))) 9 _ Try.underlying26 rfl infoWh (by decide) (rowW_size HI.out.1) ?_)
    | (go_at_call 6; (with_reducible refine (Few_M hv HI.out (b := true) HF.out).mono ?_); rintro e w1 ⟨rfl, hn1⟩; replace hv := hv.new hn1; clear hn1)
    | (go_at_call 7; (with_reducible refine (RChk_M hv HI.out HL6.out (b := true) HC.out).mono ?_); rintro e w1 ⟨rfl, hn1⟩; replace hv := hv.new hn1; clear hn1)
    | ((with_reducible refine at_load (T := 22) ?_); refine wl_ldc rfl b3 0 rfl _ (hv.vars.row (by first | exact .head _ | exact .tail _ (.head _) | exact .tail _ (.tail _ (.head _)) | exact .tail _ (.tail _ (.tail _ (.head _))) | exact .tail _ (.tail _ (.tail _ (.tail _ (.head _)))) | exact .tail _ (.tail _ (.tail _ (.tail _ (.tail _ (.head _))))) | exact .tail _ (.tail _ (.tail _ (.tail _ (.tail _ (.tail _ (.head _)))))) | exact .tail _ (.tail _ (.tail _ (.tail _ (.tail _ (.tail _ (.tail _ (.head _))))))))) _ Try.underlying22 rfl (.int .u64 (now : Nat)) HNOW.out ?_)
    | (go_at_call 8; (with_reducible refine (heads16 _).mono ?_); rintro e w1 ⟨rfl, hn1⟩; replace hv := hv.new hn1; clear hn1))
  go_ret
  exact ⟨rfl, hv.below⟩
set_option maxRecDepth 100000 in
set_option maxHeartbeats 4000000 in
theorem Steps_past (now : Nat) (sv : List Value) (S : List (List Tm)) (ta : Option Addr) (tn tc : Nat) (tl : List Nat) (en : Nat) (w : World) (R : List (Nat × Value × List Value)) (hr0 : ∀ x ∈ R, Rd w x.1 x.2.1 x.2.2) (hi : InW R sv S) (hf : fewW S = true) (hc : chkW now S = true) (h1 : tn ≤ 60) (h2 : en ≤ 1099511627776) (h3 : en ≤ now) : Calls Try.prog 4 #[.agg (rowW now sv), .slice ta tn tc, .int .u64 (en : Nat)] w fun e w' => e = .returned (.bool true) ∧ New w w' := by
  have hv := Mem.all hr0
  have HI := Lib.hid hi
  have HF := Lib.hid hf
  have HL6 : Hid (∀ l ∈ S, l.length ≤ 1000) := Lib.hid (few_len hf)
  have HC := Lib.hid hc
  have HNOW : Hid ((((rowW now sv)) : Array Value)[0]? = some (.int .u64 (now : Nat))) := Lib.hid rfl
  have a0 : decide ((60 : Int) < (tn : Int)) = false := decide_eq_false (by omega)
  have a0n : ¬ ((60 : Int) < (tn : Int)) := by omega
  have a0z : decide (60 < tn) = false := decide_eq_false (by omega)
  have c0 : decide ((1099511627776 : Int) < (en : Int)) = false := decide_eq_false (by omega)
  have c0n : ¬ ((1099511627776 : Int) < (en : Int)) := by omega
  have c0z : decide (1099511627776 < en) = false := decide_eq_false (by omega)
  have d0 : decide ((en : Int) ≤ (now : Int)) = true := decide_eq_true (by omega)
  have d0n : ((en : Int) ≤ (now : Int)) := by omega
  have d0z : decide (en ≤ now) = true := decide_eq_true (by omega)
  clear hr0 hi hf hc h1 h2 h3
  go_enter Try.func4, Try.ntmps4
  go_wp2_with (first
    | ((with_reducible refine at_box (T := 26) (dst := some 3) ?_); refine wl_newb rfl (rowW now sv) 26 (fun _ => rfl) ?_; intro b3 w2 hm2; replace hv := hv.madeAt hm2; clear hm2)
    | ((with_reducible refine at_load (T := 26) ?_); refine wl_ldv rfl b3 rfl _ (hv.vars.row (by first | exact .head _ | exact .tail _ (.head _) | exact .tail _ (.tail _ (.head _)) | exact .tail _ (.tail _ (.tail _ (.head _))) | exact .tail _ (.tail _ (.tail _ (.tail _ (.head _)))) | exact .tail _ (.tail _ (.tail _ (.tail _ (.tail _ (.head _))))) | exact .tail _ (.tail _ (.tail _ (.tail _ (.tail _ (.tail _ (.head _)))))) | exact .tail _ (.tail _ (.tail _ (.tail _ (.tail _ (.tail _ (.tail _ (.head _))))))))) 9 _ Try.underlying26 rfl infoWh (by decide) (rowW_size HI.out.1) ?_)
    | (go_at_call 6; (with_reducible refine (Few_M hv HI.out (b := true) HF.out).mono ?_); rintro e w1 ⟨rfl, hn1⟩; replace hv := hv.new hn1; clear hn1)
    | (go_at_call 7; (with_reducible refine (RChk_M hv HI.out HL6.out (b := true) HC.out).mono ?_); rintro e w1 ⟨rfl, hn1⟩; replace hv := hv.new hn1; clear hn1)
    | ((with_reducible refine at_load (T := 22) ?_); refine wl_ldc rfl b3 0 rfl _ (hv.vars.row (by first | exact .head _ | exact .tail _ (.head _) | exact .tail _ (.tail _ (.head _)) | exact .tail _ (.tail _ (.tail _ (.head _))) | exact .tail _ (.tail _ (.tail _ (.tail _ (.head _)))) | exact .tail _ (.tail _ (.tail _ (.tail _ (.tail _ (.head _))))) | exact .tail _ (.tail _ (.tail _ (.tail _ (.tail _ (.tail _ (.head _)))))) | exact .tail _ (.tail _ (.tail _ (.tail _ (.tail _ (.tail _ (.tail _ (.head _))))))))) _ Try.underlying22 rfl (.int .u64 (now : Nat)) HNOW.out ?_)
    | (go_at_call 8; (with_reducible refine (heads16 _).mono ?_); rintro e w1 ⟨rfl, hn1⟩; replace hv := hv.new hn1; clear hn1))
  go_ret
  exact ⟨rfl, hv.below⟩
set_option maxRecDepth 100000 in
set_option maxHeartbeats 16000000 in
theorem Steps_main (now : Nat) (sv : List Value) (S : List (List Tm)) (ta : Option Addr) (tn tc : Nat) (tl : List Nat) (en : Nat) (w : World) (R : List (Nat × Value × List Value)) (hr0 : ∀ x ∈ R, Rd w x.1 x.2.1 x.2.2) (hi : InW R sv S) (hgd : ∀ l ∈ S, ∀ t ∈ l, (Lit.int .i64 t.2).wf = true) (hf : fewW S = true) (hc : chkW now S = true) (h1 : tn ≤ 60) (h2 : en ≤ 1099511627776) (h3 : now < en) (ht : (1, .slice ta tn tc, (tl.map fun n => Value.int .u64 (n : Nat))) ∈ R) : Calls Try.prog 4 #[.agg (rowW now sv), .slice ta tn tc, .int .u64 (en : Nat)] w fun e w' => e = .returned (.bool true) ∧ New w w' := by
  have hv := Mem.all hr0
  have HI := Lib.hid hi
  have HF := Lib.hid hf
  have HL6 : Hid (∀ l ∈ S, l.length ≤ 1000) := Lib.hid (few_len hf)
  have HC := Lib.hid hc
  have HT := Lib.hid ht
  have HOK : Hid (OkS S) := Lib.hid ⟨hgd, few_len hf⟩
  have HNOW : Hid ((((rowW now sv)) : Array Value)[0]? = some (.int .u64 (now : Nat))) := Lib.hid rfl
  have HEM : Hid (en ≤ MaxT) := Lib.hid (by unfold MaxT; omega)
  have HMX : Hid (max now en = en) := Lib.hid (Nat.max_eq_right (by omega))
  have HONE : Hid ((rowW now sv).all (·.oneCell') = true) := Lib.hid (rowW_one hv hi)
  have HTL : Hid (tl.length = tn) := Lib.hid (by
    obtain ⟨_, _, _, e, g, _⟩ := hv.rd ht
    cases e
    rw [List.length_map] at g; omega)
  have HT60 := Lib.hid h1
  have HNE := Lib.hid h3
  have a0 : decide ((60 : Int) < (tn : Int)) = false := decide_eq_false (by omega)
  have a0n : ¬ ((60 : Int) < (tn : Int)) := by omega
  have a0z : decide (60 < tn) = false := decide_eq_false (by omega)
  have c0 : decide ((1099511627776 : Int) < (en : Int)) = false := decide_eq_false (by omega)
  have c0n : ¬ ((1099511627776 : Int) < (en : Int)) := by omega
  have c0z : decide (1099511627776 < en) = false := decide_eq_false (by omega)
  have d0 : decide ((en : Int) ≤ (now : Int)) = false := decide_eq_false (by omega)
  have d0n : ¬ ((en : Int) ≤ (now : Int)) := by omega
  have d0z : decide (en ≤ now) = false := decide_eq_false (by omega)
  clear hr0 hi hf hc hgd ht h1 h2 h3
  go_enter Try.func4, Try.ntmps4
  go_wp2_with (first
    | ((with_reducible refine at_box (T := 26) (dst := some 3) ?_); refine wl_newb rfl (rowW now sv) 26 (fun _ => rfl) ?_; intro b3 w2 hm2; replace hv := hv.madeAt hm2; clear hm2)
    | ((with_reducible refine at_load (T := 26) ?_); refine wl_ldv rfl b3 rfl _ (hv.vars.row (by first | exact .head _ | exact .tail _ (.head _) | exact .tail _ (.tail _ (.head _)) | exact .tail _ (.tail _ (.tail _ (.head _))) | exact .tail _ (.tail _ (.tail _ (.tail _ (.head _)))) | exact .tail _ (.tail _ (.tail _ (.tail _ (.tail _ (.head _))))) | exact .tail _ (.tail _ (.tail _ (.tail _ (.tail _ (.tail _ (.head _)))))) | exact .tail _ (.tail _ (.tail _ (.tail _ (.tail _ (.tail _ (.tail _ (.head _))))))))) 9 _ Try.underlying26 rfl infoWh (by decide) (rowW_size HI.out.1) ?_)
    | (go_at_call 6; (with_reducible refine (Few_M hv HI.out (b := true) HF.out).mono ?_); rintro e w1 ⟨rfl, hn1⟩; replace hv := hv.new hn1; clear hn1)
    | (go_at_call 7; (with_reducible refine (RChk_M hv HI.out HL6.out (b := true) HC.out).mono ?_); rintro e w1 ⟨rfl, hn1⟩; replace hv := hv.new hn1; clear hn1)
    | ((with_reducible refine at_load (T := 22) ?_); refine wl_ldc rfl b3 0 rfl _ (hv.vars.row (by first | exact .head _ | exact .tail _ (.head _) | exact .tail _ (.tail _ (.head _)) | exact .tail _ (.tail _ (.tail _ (.head _))) | exact .tail _ (.tail _ (.tail _ (.tail _ (.head _)))) | exact .tail _ (.tail _ (.tail _ (.tail _ (.tail _ (.head _))))) | exact .tail _ (.tail _ (.tail _ (.tail _ (.tail _ (.tail _ (.head _)))))) | exact .tail _ (.tail _ (.tail _ (.tail _ (.tail _ (.tail _ (.tail _ (.head _))))))))) _ Try.underlying22 rfl (.int .u64 (now : Nat)) HNOW.out ?_)
    | (go_at_call 10; (with_reducible refine (Adv_law hv HI.out HOK.out HC.out en HEM.out (nm := en) HMX.out).mono ?_); rintro e w1 ⟨sv7, va7, vn7, vc7, cs7, R7, rfl, hv1, hi1, hx1, hl1, hp1, hs1, hs⟩; replace hv := hv1; have HI7 := Lib.hid hi1; have HX7 := Lib.hid hx1; have HP7 : Hid (cs7.Perm (cameF en S.flatten) ∧ Srt cs7) := Lib.hid ⟨hp1, hs1⟩; have HR7 := Lib.hid hs; clear hv1 hi1 hx1 hl1 hp1 hs1 hs)
    | ((with_reducible refine at_alloc (T := 26) (dst := some 7) ?_); refine wl_newb rfl (rowW 0 nilW) 26 (fun _ => rfl) ?_; intro b7 w2 hm2; replace hv := hv.madeAt hm2; clear hm2)
    | ((with_reducible refine at_store (T := 26) ?_); refine wl_stv rfl b7 rfl _ rfl _ (hv.vars.row (by first | exact .head _ | exact .tail _ (.head _) | exact .tail _ (.tail _ (.head _)) | exact .tail _ (.tail _ (.tail _ (.head _))) | exact .tail _ (.tail _ (.tail _ (.tail _ (.head _)))) | exact .tail _ (.tail _ (.tail _ (.tail _ (.tail _ (.head _))))) | exact .tail _ (.tail _ (.tail _ (.tail _ (.tail _ (.tail _ (.head _)))))) | exact .tail _ (.tail _ (.tail _ (.tail _ (.tail _ (.tail _ (.tail _ (.head _))))))))) (hv.vars.sft (by first | exact .head _ | exact .tail _ (.head _) | exact .tail _ (.tail _ (.head _)) | exact .tail _ (.tail _ (.tail _ (.head _))) | exact .tail _ (.tail _ (.tail _ (.tail _ (.head _)))) | exact .tail _ (.tail _ (.tail _ (.tail _ (.tail _ (.head _))))) | exact .tail _ (.tail _ (.tail _ (.tail _ (.tail _ (.tail _ (.head _)))))) | exact .tail _ (.tail _ (.tail _ (.tail _ (.tail _ (.tail _ (.tail _ (.head _))))))))) 9 infoWh (rowW_size HI7.out.1) rfl (rowW_one (now := en) hv HI7.out) ?_; intro w2 hw2; (first | (replace hv := hv.set 0 rfl hw2) | (replace hv := hv.set 1 rfl hw2) | (replace hv := hv.set 2 rfl hw2) | (replace hv := hv.set 3 rfl hw2)); clear hw2; simp only [List.set] at hv)
    | ((with_reducible refine at_alloc (T := 26) (dst := some 10) ?_); refine wl_newb rfl (rowW 0 nilW) 26 (fun _ => rfl) ?_; intro b10 w2 hm2; replace hv := hv.madeAt hm2; clear hm2)
    | ((with_reducible refine at_store (T := 26) ?_); refine wl_stv rfl b10 rfl _ rfl _ (hv.vars.row (by first | exact .head _ | exact .tail _ (.head _) | exact .tail _ (.tail _ (.head _)) | exact .tail _ (.tail _ (.tail _ (.head _))) | exact .tail _ (.tail _ (.tail _ (.tail _ (.head _)))) | exact .tail _ (.tail _ (.tail _ (.tail _ (.tail _ (.head _))))) | exact .tail _ (.tail _ (.tail _ (.tail _ (.tail _ (.tail _ (.head _)))))) | exact .tail _ (.tail _ (.tail _ (.tail _ (.tail _ (.tail _ (.tail _ (.head _))))))))) (hv.vars.sft (by first | exact .head _ | exact .tail _ (.head _) | exact .tail _ (.tail _ (.head _)) | exact .tail _ (.tail _ (.tail _ (.head _))) | exact .tail _ (.tail _ (.tail _ (.tail _ (.head _)))) | exact .tail _ (.tail _ (.tail _ (.tail _ (.tail _ (.head _))))) | exact .tail _ (.tail _ (.tail _ (.tail _ (.tail _ (.tail _ (.head _)))))) | exact .tail _ (.tail _ (.tail _ (.tail _ (.tail _ (.tail _ (.tail _ (.head _))))))))) 9 infoWh (rowW_size HI.out.1) rfl HONE.out ?_; intro w2 hw2; (first | (replace hv := hv.set 0 rfl hw2) | (replace hv := hv.set 1 rfl hw2) | (replace hv := hv.set 2 rfl hw2) | (replace hv := hv.set 3 rfl hw2)); clear hw2; simp only [List.set] at hv))
  go_loopw [9, 11] (fun ov iv wr => ∃ (i nk : Nat) (svk : List Value) (R1 : List (Nat × Value × List Value)) (acc : List Tm) (O : List (Nat × Array Value)), i ≤ tn ∧ iv = .int .i64 (i : Nat) ∧ Mem w wr ((b10, (rowW nk svk)) :: (b7, rowW en sv7) :: (b3, rowW now sv) :: O) R1 ∧ Hid (OwnL 1 ov (idsI acc) O) ∧ Hid (∀ x ∈ R7, x ∈ R1) ∧ Hid (InW R1 svk (S.map (leftF nk))) ∧ Hid (now ≤ nk ∧ nk ≤ en) ∧ Hid (acc.Perm (cameF nk S.flatten) ∧ Srt acc)) (fun _ iv _ => tn - (intOf iv).toNat)
  case atStart => exact ⟨0, now, sv, R7, [], [], Nat.zero_le _, rfl, hv, Lib.hid (OwnL.nil 1), Lib.hid (fun x hx => hx), Lib.hid (by rw [leftnow HC.out]; exact HI.out.mono HR7.out), Lib.hid ⟨Nat.le_refl _, Nat.le_of_lt HNE.out⟩, Lib.hid ⟨by rw [camenow HC.out], List.Pairwise.nil⟩⟩
  case round =>
    clear hv
    obtain ⟨i, nk, svk, R1, acc, O, hi0, rfl, hv, HOU, HRS, HIK, HNK, HAC⟩ := hrel
    obtain ⟨oa, on, oc, rfl, hon⟩ := id HOU.out.slice
    clear hon
    have HSK : Hid ((rowW nk svk).size = 9) := Lib.hid (rowW_size HIK.out.1)
    have HCK : Hid (chkW nk (S.map (leftF nk)) = true) := Lib.hid (chk_left HC.out (Nat.le_trans HNK.out.2 HEM.out))
    have HOKK : Hid (OkS (S.map (leftF nk))) := Lib.hid (HOK.out.left nk)
    by_cases hi2 : i < tn
    · have hki : (i : Int) < (tn : Int) := by omega
      have hib : (i : Int) ≤ 5000 := by have := HT60.out; omega
      have HIR := Lib.hid hi2
      have hil : i < tl.length := by rw [HTL.out]; exact hi2
      obtain ⟨tt, hx⟩ : ∃ z, tl[i] = z := ⟨_, rfl⟩
      have HX : Hid ((tl.map fun n => Value.int .u64 (n : Nat))[i]? = some (.int .u64 (tt : Nat))) := Lib.hid (by rw [List.getElem?_map, List.getElem?_eq_getElem hil, hx]; rfl)
      obtain ⟨tb, to, _, _, e, hq⟩ := (hv.rd (HRS.out _ (HR7.out _ HT.out))).some (by rw [List.length_map, HTL.out]; omega)
      clear hq
      cases e
      have HPT := Lib.hid (Any.rd_start (hv.keep (List.sublist_append_left [(b10, (rowW nk svk))] ([(b7, rowW en sv7), (b3, rowW now sv)] ++ O))) (HRS.out _ (HR7.out _ HT.out)))
      clear hx hil hi0
      by_cases hte : tt ≤ en
      · have e0 : decide ((tt : Int) ≤ (en : Int)) = true := decide_eq_true (by omega)
        have e0z : decide (tt ≤ en) = true := decide_eq_true hte
        obtain ⟨nm, hnm⟩ : ∃ nm, max nk tt = nm := ⟨_, rfl⟩
        have HNM := Lib.hid hnm
        have HTE := Lib.hid hte
        have HTM : Hid (tt ≤ MaxT) := Lib.hid (Nat.le_trans hte HEM.out)
        clear hnm hte hi2
        go_wp2_with (first
          | ((with_reducible refine at_load (T := 22) ?_); refine wl_rd rfl (c := (tl.map fun n => Value.int .u64 (n : Nat))) (hv.rd (HRS.out _ (HR7.out _ HT.out))) i rfl _ Try.underlying22 rfl (.int .u64 (tt : Nat)) HX.out ?_))
        have hv0 := hv
        clear hv
        have hv : Mem w _ ([(b10, (rowW nk svk))] ++ ([(b7, rowW en sv7), (b3, rowW now sv)] ++ O)) _ := hv0
        clear hv0
        refine Any.wp_region_cut2 5 9 [⟨[1000], none⟩, ⟨[], none⟩, ⟨[], none⟩, ⟨[], none⟩, ⟨[], none⟩, ⟨[], none⟩, ⟨[], none⟩, ⟨[], none⟩, ⟨[], none⟩, ⟨[], none⟩, ⟨[], none⟩, ⟨[], none⟩] [.val, .val, .val, .val, .val] ⟨[], some 5⟩ (rowW 0 nilW) (by kernel_rfl) (by kernel_rfl) (by decide) (by decide) (hv.vars.keep (List.sublist_append_left [(b10, (rowW nk svk))] ([(b7, rowW en sv7), (b3, rowW now sv)] ++ O))) ?_
        simp only [Any.someVals, List.take_succ_cons, List.take_zero]
        iterate 5 apply Exists.intro
        repeat (first
          | (refine Any.E_off rfl ?_; simp only [Act.put, List.setIfInBounds_toArray, List.set_cons_succ, List.set_cons_zero])
          | (apply Any.E_pureq rfl rfl rfl
             case h => intro K hK; go_big_quiet_op; (refine hK _ ?_; rfl)
             case hr => exact fun _ => rfl
             simp only [Act.put, List.setIfInBounds_toArray, List.set_cons_succ, List.set_cons_zero])
          | (apply Any.E_val rfl rfl rfl rfl
             case h =>
               intro E' hA K hK
               first
                 | ((with_reducible refine Any.at_qload (T := 26) ?_); refine Any.q_ldv 1000 hA (by decide) rfl rfl 9 _ Try.underlying26 rfl infoWh (by decide) HSK.out ?_; refine hK _ ?_; rfl)
                 | ((with_reducible refine Any.at_qload (T := 22) ?_); refine Any.q_rd HPT.out (i) rfl _ Try.underlying22 rfl (.int .u64 (tt : Nat)) HX.out ?_; refine hK _ ?_; rfl)
                 | (go_big_quiet_op; first
                   | (refine hK _ ?_; rfl)
                   | (refine ⟨_, fun _ _ => rfl, ?_⟩; refine hK _ ?_; rfl)
                   | (apply Exists.intro; refine ⟨fun w1 hw1 => ?_, ?_⟩; · (first
                       | fail)
                      refine hK _ ?_; rfl))
             case hD => rfl
             simp only [Act.put, List.setIfInBounds_toArray, List.set_cons_succ, List.set_cons_zero])
          | ((with_reducible refine Any.at_ealloc ?_); refine Any.E_lay rfl rfl rfl (fun _ => rfl) ?_; intro B; simp only [Act.put, List.setIfInBounds_toArray, List.set_cons_succ, List.set_cons_zero])
          | ((with_reducible refine Any.at_estore (T := 26) ?_); refine Any.E_putv (T := 26) rfl rfl rfl rfl rfl rfl 9 infoWh HSZ1.out rfl HON1.out ?_; simp only [Act.put, List.setIfInBounds_toArray, List.set_cons_succ, List.set_cons_zero]))
        try any_goals exact undef
        refine Any.E_nil ?_
        refine ⟨?_, ?_⟩
        · intro w9 hE9
          replace hv : Mem w w9 ([(b10, (rowW nk svk))] ++ ([(b7, rowW en sv7), (b3, rowW now sv)] ++ O)) _ := hE9.memr hv [1000] (by decide)
          clear hE9
          refine Any.wpOp_callv rfl rfl (Go.Proofs.enters_of Try.func10 (by kernel_rfl) rfl) rfl [.agg (rowW nk svk), .int .u64 (tt : Nat)] rfl ?_
          refine (Adv_law hv HIK.out HOKK.out HCK.out tt HTM.out (nm := nm) HNM.out).mono ?_
          rintro e w1 ⟨sv1, va1, vn1, vc1, cs1, R2, rfl, hv1, hi1, hx1, hl1, hp1, hs1, hs⟩
          replace hv := hv1
          rw [left_lefts (by have := HNM.out; omega)] at hi1
          rw [left_flat] at hp1
          have HI1 := Lib.hid hi1
          have HX1 := Lib.hid hx1
          have HST := Lib.hid (step_ok HNM.out HAC.out hp1 hs1)
          have HR2 := Lib.hid hs
          have HSZ1 : Hid ((rowW nm sv1).size = 9) := Lib.hid (rowW_size HI1.out.1)
          have HON1 : Hid ((rowW nm sv1).all (·.oneCell') = true) := Lib.hid (rowW_one hv HI1.out)
          clear hv1 hi1 hx1 hl1 hp1 hs1 hs
          refine ⟨_, rfl, ?_⟩
          refine Any.wpAny_rest 6 [⟨[], none⟩, ⟨[], none⟩, ⟨[], none⟩, ⟨[], some 5⟩, ⟨[5], some 5⟩, ⟨[], none⟩] [.val, .val, .val, .lay (rowW 0 nilW), .put, .val] (by kernel_rfl) (hv.vars.keep (List.sublist_append_left [(b10, (rowW nk svk))] ([(b7, rowW en sv7), (b3, rowW now sv)] ++ O))) ?_
          simp only [List.length_cons, List.length_nil, Nat.zero_add, Nat.reduceAdd, Nat.reduceSub, Any.someVals, List.drop_succ_cons, List.drop_zero, List.take_succ_cons, List.take_zero, List.cons_append, List.nil_append]
          simp only [Act.put, List.setIfInBounds_toArray, List.set_cons_succ, List.set_cons_zero]
          iterate 6 apply Exists.intro
          repeat (first
            | (refine Any.E_off rfl ?_; simp only [Act.put, List.setIfInBounds_toArray, List.set_cons_succ, List.set_cons_zero])
            | (apply Any.E_pureq rfl rfl rfl
               case h => intro K hK; go_big_quiet_op; (refine hK _ ?_; rfl)
               case hr => exact fun _ => rfl
               simp only [Act.put, List.setIfInBounds_toArray, List.set_cons_succ, List.set_cons_zero])
            | (apply Any.E_val rfl rfl rfl rfl
               case h =>
                 intro E' hA K hK
                 first
                   | (go_big_quiet_op; first
                     | (refine hK _ ?_; rfl)
                     | (refine ⟨_, fun _ _ => rfl, ?_⟩; refine hK _ ?_; rfl)
                     | (apply Exists.intro; refine ⟨fun w1 hw1 => ?_, ?_⟩; · (first
                         | fail)
                        refine hK _ ?_; rfl))
               case hD => rfl
               simp only [Act.put, List.setIfInBounds_toArray, List.set_cons_succ, List.set_cons_zero])
            | ((with_reducible refine Any.at_ealloc ?_); refine Any.E_lay rfl rfl rfl (fun _ => rfl) ?_; intro b12; simp only [Act.put, List.setIfInBounds_toArray, List.set_cons_succ, List.set_cons_zero])
            | ((with_reducible refine Any.at_estore (T := 26) ?_); refine Any.E_putv (T := 26) rfl rfl rfl rfl rfl rfl 9 infoWh HSZ1.out rfl HON1.out ?_; simp only [Act.put, List.setIfInBounds_toArray, List.set_cons_succ, List.set_cons_zero]))
          try any_goals exact undef
          refine Any.E_nil ?_
          intro w9 hE9
          replace hv : Mem w w9 ([(b12, (rowW nm sv1)), (b10, (rowW nk svk))] ++ ([(b7, rowW en sv7), (b3, rowW now sv)] ++ O)) _ := hE9.memr0 hv [5, 1000] (by decide)
          clear hE9
          simp only [List.cons_append, List.nil_append] at hv
          go_wp2
          rcases HOU.out with ⟨e1, e2, e3⟩ | ⟨x0, hrw, e3⟩
          · cases e1
            subst e3
            have HGD0 := Any.rd_start hv HX1.out
            have HE2 := Lib.hid e2
            clear e2
            by_cases hne : idsI cs1 = []
            · rw [hne] at HGD0
              have HGD := Lib.hid HGD0.1
              have HNE := Lib.hid hne
              clear hne HGD0
              refine Any.wp_region_walk [⟨[1000], none⟩, ⟨[], none⟩, ⟨[], none⟩, ⟨[], none⟩, ⟨[1001], some 1001⟩, ⟨[], none⟩] [.val, .val, .val, .val, .put, .val] (by kernel_rfl) (by kernel_rfl) hv.vars ?_
              simp only [List.length_cons, List.length_nil, Nat.zero_add, Any.someVals]
              iterate 6 apply Exists.intro
              repeat (first
                | (refine Any.E_off rfl ?_; simp only [Act.put, List.setIfInBounds_toArray, List.set_cons_succ, List.set_cons_zero])
                | (apply Any.E_pureq rfl rfl rfl
                   case h => intro K hK; go_big_quiet_op; (refine hK _ ?_; rfl)
                   case hr => exact fun _ => rfl
                   simp only [Act.put, List.setIfInBounds_toArray, List.set_cons_succ, List.set_cons_zero])
                | (apply Any.E_val rfl rfl rfl rfl
                   case h =>
                     intro E' hA K hK
                     first
                       | ((with_reducible refine Any.at_qload (T := 26) ?_); refine Any.q_ldv 1000 hA (by decide) rfl rfl 9 _ Try.underlying26 rfl infoWh (by decide) HSZ1.out ?_; refine hK _ ?_; rfl)
                       | (refine Any.q_appnil0 rfl rfl HGD.out Try.underlying31 (by kernel_rfl) (by decide) ?_; refine hK _ ?_; rfl)
                       | (go_big_quiet_op; first
                         | (refine hK _ ?_; rfl)
                         | (refine ⟨_, fun _ _ => rfl, ?_⟩; refine hK _ ?_; rfl)
                         | (apply Exists.intro; refine ⟨fun w1 hw1 => ?_, ?_⟩; · (first
                             | fail)
                            refine hK _ ?_; rfl))
                   case hD => rfl
                   simp only [Act.put, List.setIfInBounds_toArray, List.set_cons_succ, List.set_cons_zero])
                | ((with_reducible refine Any.at_ealloc ?_); refine Any.E_lay rfl rfl rfl (fun _ => rfl) ?_; intro B; simp only [Act.put, List.setIfInBounds_toArray, List.set_cons_succ, List.set_cons_zero])
                | ((with_reducible refine Any.at_estore (T := 26) ?_); refine Any.E_putv (T := 26) rfl rfl rfl rfl rfl rfl 9 infoWh HSZ1.out HSK.out HON1.out ?_; simp only [Act.put, List.setIfInBounds_toArray, List.set_cons_succ, List.set_cons_zero]))
              try any_goals exact undef
              refine Any.E_nil ?_
              intro w9 hE9
              replace hv : Mem w w9 ([(b12, (rowW nm sv1)), (b10, (rowW nm sv1))] ++ [(b7, rowW en sv7), (b3, rowW now sv)]) _ := hE9.mem hv [1000, 1001, 1002, 1003] (by decide)
              clear hE9
              simp only [List.cons_append, List.nil_append] at hv
              go_wp2
              have hik := HIR.out
              go_roundw
              case rel => exact ⟨i + 1, nm, sv1, R2, acc ++ cs1, [], by omega, by go_num, hv.drop, Lib.hid (by rw [idsI_app, HE2.out, HNE.out]; exact OwnL.nil 1), Lib.hid (fun x hx => HR2.out x (HRS.out x hx)), HI1, Lib.hid (by have := HNK.out; have := HNM.out; have := HTE.out; omega), HST⟩
              case measure => simp [intOf]; omega
            · have HGD := Lib.hid HGD0
              have HNE := Lib.hid hne
              have HB1 : Hid ((idsI cs1).length / 1 ≤ maxLen) := Lib.hid (by
                have := len32 HC.out HST.out.1
                rw [List.length_append] at this
                rw [idsI_len, Nat.div_one]; unfold maxLen; omega)
              have HB2 : Hid ((idsI cs1).length / 1 * 8 ≤ 140737488355328) := Lib.hid (by
                have := len32 HC.out HST.out.1
                rw [List.length_append] at this
                rw [idsI_len, Nat.div_one]; omega)
              clear hne HGD0
              refine Any.wp_region_walk [⟨[1000], none⟩, ⟨[], none⟩, ⟨[], none⟩, ⟨[], some 6⟩, ⟨[1001], some 1001⟩, ⟨[], none⟩] [.val, .val, .val, .own (AppRow · 1 (idsI cs1)), .put, .pure] (by kernel_rfl) (by kernel_rfl) hv.vars ?_
              simp only [List.length_cons, List.length_nil, Nat.zero_add, Any.someVals]
              iterate 6 apply Exists.intro
              repeat (first
                | (refine Any.E_off rfl ?_; simp only [Act.put, List.setIfInBounds_toArray, List.set_cons_succ, List.set_cons_zero])
                | (apply Any.E_pureq rfl rfl rfl
                   case h => intro K hK; go_big_quiet_op; (refine hK _ ?_; rfl)
                   case hr => exact fun _ => rfl
                   simp only [Act.put, List.setIfInBounds_toArray, List.set_cons_succ, List.set_cons_zero])
                | (apply Any.E_val rfl rfl rfl rfl
                   case h =>
                     intro E' hA K hK
                     first
                       | ((with_reducible refine Any.at_qload (T := 26) ?_); refine Any.q_ldv 1000 hA (by decide) rfl rfl 9 _ Try.underlying26 rfl infoWh (by decide) HSZ1.out ?_; refine hK _ ?_; rfl)
                       | (go_big_quiet_op; first
                         | (refine hK _ ?_; rfl)
                         | (refine ⟨_, fun _ _ => rfl, ?_⟩; refine hK _ ?_; rfl)
                         | (apply Exists.intro; refine ⟨fun w1 hw1 => ?_, ?_⟩; · (first
                             | fail)
                            refine hK _ ?_; rfl))
                   case hD => rfl
                   simp only [Act.put, List.setIfInBounds_toArray, List.set_cons_succ, List.set_cons_zero])
                | ((with_reducible refine Any.at_ealloc ?_); refine Any.E_lay rfl rfl rfl (fun _ => rfl) ?_; intro B; simp only [Act.put, List.setIfInBounds_toArray, List.set_cons_succ, List.set_cons_zero])
                | ((with_reducible refine Any.at_eapp (t := 31) ?_); refine Any.E_appnilR rfl rfl rfl rfl rfl HGD.out HNE.out (.int .i64 0) 8 Try.underlying31 infoIz rfl (by decide) (idsI_one _) HB1.out HB2.out ?_; intro v9 x9 hW9; have hq9 := hW9; obtain ⟨n9, c9, rfl, g9⟩ := hq9; clear g9; replace hW9 := Lib.hid hW9; simp only [Act.put, List.setIfInBounds_toArray, List.set_cons_succ, List.set_cons_zero])
                | ((with_reducible refine Any.at_estore (T := 26) ?_); refine Any.E_putv (T := 26) rfl rfl rfl rfl rfl rfl 9 infoWh HSZ1.out HSK.out HON1.out ?_; simp only [Act.put, List.setIfInBounds_toArray, List.set_cons_succ, List.set_cons_zero]))
              try any_goals exact undef
              refine Any.E_nil ?_
              intro w9 hE9
              replace hv : Mem w w9 ([(b12, (rowW nm sv1)), (b10, (rowW nm sv1))] ++ [(b7, rowW en sv7), (b3, rowW now sv)] ++ [x9]) _ := hE9.mem hv [1000, 1001, 1002, 1003, 6] (by decide)
              clear hE9
              simp only [List.cons_append, List.nil_append] at hv
              go_wp2
              have hik := HIR.out
              go_roundw
              case rel => exact ⟨i + 1, nm, sv1, R2, acc ++ cs1, [x9], by omega, by go_num, hv.drop, Lib.hid (by rw [idsI_app, HE2.out, List.nil_append]; exact OwnL.row hW9.out), Lib.hid (fun x hx => HR2.out x (HRS.out x hx)), HI1, Lib.hid (by have := HNK.out; have := HNM.out; have := HTE.out; omega), HST⟩
              case measure => simp [intOf]; omega
          · subst e3
            have hrow := Lib.hid hrw
            have HGD := Lib.hid (Any.rd_start hv HX1.out)
            have HB1 : Hid (((idsI acc).length + (idsI cs1).length) / 1 ≤ maxLen) := Lib.hid (by
              have := len32 HC.out HST.out.1
              rw [List.length_append] at this
              rw [idsI_len, idsI_len, Nat.div_one]; unfold maxLen; omega)
            have HB2 : Hid (((idsI acc).length + (idsI cs1).length) / 1 * 8 ≤ 140737488355328) := Lib.hid (by
              have := len32 HC.out HST.out.1
              rw [List.length_append] at this
              rw [idsI_len, idsI_len, Nat.div_one]; omega)
            clear hrw
            refine Any.wp_region_walk [⟨[1000], none⟩, ⟨[], none⟩, ⟨[], none⟩, ⟨[], some 1004⟩, ⟨[1001], some 1001⟩, ⟨[], none⟩] [.val, .val, .val, .own (AppRow · 1 (idsI acc ++ idsI cs1)), .put, .pure] (by kernel_rfl) (by kernel_rfl) hv.vars ?_
            simp only [List.length_cons, List.length_nil, Nat.zero_add, Any.someVals]
            iterate 6 apply Exists.intro
            repeat (first
              | (refine Any.E_off rfl ?_; simp only [Act.put, List.setIfInBounds_toArray, List.set_cons_succ, List.set_cons_zero])
              | (apply Any.E_pureq rfl rfl rfl
                 case h => intro K hK; go_big_quiet_op; (refine hK _ ?_; rfl)
                 case hr => exact fun _ => rfl
                 simp only [Act.put, List.setIfInBounds_toArray, List.set_cons_succ, List.set_cons_zero])
              | (apply Any.E_val rfl rfl rfl rfl
                 case h =>
                   intro E' hA K hK
                   first
                     | ((with_reducible refine Any.at_qload (T := 26) ?_); refine Any.q_ldv 1000 hA (by decide) rfl rfl 9 _ Try.underlying26 rfl infoWh (by decide) HSZ1.out ?_; refine hK _ ?_; rfl)
                     | (go_big_quiet_op; first
                       | (refine hK _ ?_; rfl)
                       | (refine ⟨_, fun _ _ => rfl, ?_⟩; refine hK _ ?_; rfl)
                       | (apply Exists.intro; refine ⟨fun w1 hw1 => ?_, ?_⟩; · (first
                           | fail)
                          refine hK _ ?_; rfl))
                 case hD => rfl
                 simp only [Act.put, List.setIfInBounds_toArray, List.set_cons_succ, List.set_cons_zero])
              | ((with_reducible refine Any.at_ealloc ?_); refine Any.E_lay rfl rfl rfl (fun _ => rfl) ?_; intro B; simp only [Act.put, List.setIfInBounds_toArray, List.set_cons_succ, List.set_cons_zero])
              | ((with_reducible refine Any.at_eapp (t := 31) ?_); refine Any.E_appR rfl rfl rfl rfl rfl hrow.out rfl HGD.out (.int .i64 0) 8 Try.underlying31 infoIz rfl (by decide) (idsI_one _) HB1.out HB2.out ?_; intro v9 x9 hW9; have hq9 := hW9; obtain ⟨n9, c9, rfl, g9⟩ := hq9; clear g9; replace hW9 := Lib.hid hW9; simp only [Act.put, List.setIfInBounds_toArray, List.set_cons_succ, List.set_cons_zero])
              | ((with_reducible refine Any.at_estore (T := 26) ?_); refine Any.E_putv (T := 26) rfl rfl rfl rfl rfl rfl 9 infoWh HSZ1.out HSK.out HON1.out ?_; simp only [Act.put, List.setIfInBounds_toArray, List.set_cons_succ, List.set_cons_zero]))
            try any_goals exact undef
            refine Any.E_nil ?_
            intro w9 hE9
            replace hv : Mem w w9 ([(b12, (rowW nm sv1)), (b10, (rowW nm sv1))] ++ [(b7, rowW en sv7), (b3, rowW now sv)] ++ [x9]) _ := hE9.mem hv [1000, 1001, 1002, 1003, 1004] (by decide)
            clear hE9
            simp only [List.cons_append, List.nil_append] at hv
            go_wp2
            have hik := HIR.out
            go_roundw
            case rel => exact ⟨i + 1, nm, sv1, R2, acc ++ cs1, [x9], by omega, by go_num, hv.drop, Lib.hid (by rw [idsI_app]; exact OwnL.row hW9.out), Lib.hid (fun x hx => HR2.out x (HRS.out x hx)), HI1, Lib.hid (by have := HNK.out; have := HNM.out; have := HTE.out; omega), HST⟩
            case measure => simp [intOf]; omega
        · simp only [List.drop_succ_cons, List.drop_zero, List.take_succ_cons, List.take_zero]
          refine Any.E_lay rfl rfl rfl (fun _ => rfl) ?_
          intro b12
          simp only [Act.put, List.setIfInBounds_toArray, List.set_cons_succ, List.set_cons_zero]
          refine Any.E_nil ?_
          intro w9 hE9
          replace hv : Mem w w9 ([(b12, (rowW 0 nilW)), (b10, (rowW nk svk))] ++ ([(b7, rowW en sv7), (b3, rowW now sv)] ++ O)) _ := hE9.memr hv [5, 1000] (by decide)
          clear hE9
          refine Any.wpOp_callv rfl rfl (Go.Proofs.enters_of Try.func10 (by kernel_rfl) rfl) rfl [.agg (rowW nk svk), .int .u64 (tt : Nat)] rfl ?_
          refine (Adv_law hv HIK.out HOKK.out HCK.out tt HTM.out (nm := nm) HNM.out).mono ?_
          rintro e w1 ⟨sv1, va1, vn1, vc1, cs1, R2, rfl, hv1, hi1, hx1, hl1, hp1, hs1, hs⟩
          replace hv := hv1
          rw [left_lefts (by have := HNM.out; omega)] at hi1
          rw [left_flat] at hp1
          have HI1 := Lib.hid hi1
          have HX1 := Lib.hid hx1
          have HST := Lib.hid (step_ok HNM.out HAC.out hp1 hs1)
          have HR2 := Lib.hid hs
          have HSZ1 : Hid ((rowW nm sv1).size = 9) := Lib.hid (rowW_size HI1.out.1)
          have HON1 : Hid ((rowW nm sv1).all (·.oneCell') = true) := Lib.hid (rowW_one hv HI1.out)
          clear hv1 hi1 hx1 hl1 hp1 hs1 hs
          refine ⟨_, rfl, ?_⟩
          refine Any.wpAny_skip 5 9 [⟨[], none⟩, ⟨[], none⟩, ⟨[], none⟩, ⟨[1000], some 1000⟩, ⟨[], none⟩] [.val, .val, .val, .put, .val] (by decide) (by decide) (by kernel_rfl) (hv.vars.keep (List.sublist_append_left [(b12, (rowW 0 nilW)), (b10, (rowW nk svk))] ([(b7, rowW en sv7), (b3, rowW now sv)] ++ O))) ?_
          simp only [List.length_cons, List.length_nil, Nat.zero_add, Nat.reduceAdd, Nat.reduceSub, Any.someVals, List.drop_succ_cons, List.drop_zero, List.take_succ_cons, List.take_zero, List.cons_append, List.nil_append]
          simp only [Act.put, List.setIfInBounds_toArray, List.set_cons_succ, List.set_cons_zero]
          iterate 5 apply Exists.intro
          repeat (first
            | (refine Any.E_off rfl ?_; simp only [Act.put, List.setIfInBounds_toArray, List.set_cons_succ, List.set_cons_zero])
            | (apply Any.E_pureq rfl rfl rfl
               case h => intro K hK; go_big_quiet_op; (refine hK _ ?_; rfl)
               case hr => exact fun _ => rfl
               simp only [Act.put, List.setIfInBounds_toArray, List.set_cons_succ, List.set_cons_zero])
            | (apply Any.E_val rfl rfl rfl rfl
               case h =>
                 intro E' hA K hK
                 first
                   | (go_big_quiet_op; first
                     | (refine hK _ ?_; rfl)
                     | (refine ⟨_, fun _ _ => rfl, ?_⟩; refine hK _ ?_; rfl)
                     | (apply Exists.intro; refine ⟨fun w1 hw1 => ?_, ?_⟩; · (first
                         | fail)
                        refine hK _ ?_; rfl))
               case hD => rfl
               simp only [Act.put, List.setIfInBounds_toArray, List.set_cons_succ, List.set_cons_zero])
            | ((with_reducible refine Any.at_ealloc ?_); refine Any.E_lay rfl rfl rfl (fun _ => rfl) ?_; intro B; simp only [Act.put, List.setIfInBounds_toArray, List.set_cons_succ, List.set_cons_zero])
            | ((with_reducible refine Any.at_estore (T := 26) ?_); refine Any.E_putv (T := 26) rfl rfl rfl rfl rfl rfl 9 infoWh HSZ1.out rfl HON1.out ?_; simp only [Act.put, List.setIfInBounds_toArray, List.set_cons_succ, List.set_cons_zero]))
          try any_goals exact undef
          refine Any.E_nil ?_
          intro w9 hE9
          replace hv : Mem w w9 ([(b12, (rowW nm sv1)), (b10, (rowW nk svk))] ++ ([(b7, rowW en sv7), (b3, rowW now sv)] ++ O)) _ := hE9.memr0 hv [1000, 1001] (by decide)
          clear hE9
          simp only [List.cons_append, List.nil_append] at hv
          go_wp2
          rcases HOU.out with ⟨e1, e2, e3⟩ | ⟨x0, hrw, e3⟩
          · cases e1
            subst e3
            have HGD0 := Any.rd_start hv HX1.out
            have HE2 := Lib.hid e2
            clear e2
            by_cases hne : idsI cs1 = []
            · rw [hne] at HGD0
              have HGD := Lib.hid HGD0.1
              have HNE := Lib.hid hne
              clear hne HGD0
              refine Any.wp_region_walk [⟨[1000], none⟩, ⟨[], none⟩, ⟨[], none⟩, ⟨[], none⟩, ⟨[1001], some 1001⟩, ⟨[], none⟩] [.val, .val, .val, .val, .put, .val] (by kernel_rfl) (by kernel_rfl) hv.vars ?_
              simp only [List.length_cons, List.length_nil, Nat.zero_add, Any.someVals]
              iterate 6 apply Exists.intro
              repeat (first
                | (refine Any.E_off rfl ?_; simp only [Act.put, List.setIfInBounds_toArray, List.set_cons_succ, List.set_cons_zero])
                | (apply Any.E_pureq rfl rfl rfl
                   case h => intro K hK; go_big_quiet_op; (refine hK _ ?_; rfl)
                   case hr => exact fun _ => rfl
                   simp only [Act.put, List.setIfInBounds_toArray, List.set_cons_succ, List.set_cons_zero])
                | (apply Any.E_val rfl rfl rfl rfl
                   case h =>
                     intro E' hA K hK
                     first
                       | ((with_reducible refine Any.at_qload (T := 26) ?_); refine Any.q_ldv 1000 hA (by decide) rfl rfl 9 _ Try.underlying26 rfl infoWh (by decide) HSZ1.out ?_; refine hK _ ?_; rfl)
                       | (refine Any.q_appnil0 rfl rfl HGD.out Try.underlying31 (by kernel_rfl) (by decide) ?_; refine hK _ ?_; rfl)
                       | (go_big_quiet_op; first
                         | (refine hK _ ?_; rfl)
                         | (refine ⟨_, fun _ _ => rfl, ?_⟩; refine hK _ ?_; rfl)
                         | (apply Exists.intro; refine ⟨fun w1 hw1 => ?_, ?_⟩; · (first
                             | fail)
                            refine hK _ ?_; rfl))
                   case hD => rfl
                   simp only [Act.put, List.setIfInBounds_toArray, List.set_cons_succ, List.set_cons_zero])
                | ((with_reducible refine Any.at_ealloc ?_); refine Any.E_lay rfl rfl rfl (fun _ => rfl) ?_; intro B; simp only [Act.put, List.setIfInBounds_toArray, List.set_cons_succ, List.set_cons_zero])
                | ((with_reducible refine Any.at_estore (T := 26) ?_); refine Any.E_putv (T := 26) rfl rfl rfl rfl rfl rfl 9 infoWh HSZ1.out HSK.out HON1.out ?_; simp only [Act.put, List.setIfInBounds_toArray, List.set_cons_succ, List.set_cons_zero]))
              try any_goals exact undef
              refine Any.E_nil ?_
              intro w9 hE9
              replace hv : Mem w w9 ([(b12, (rowW nm sv1)), (b10, (rowW nm sv1))] ++ [(b7, rowW en sv7), (b3, rowW now sv)]) _ := hE9.mem hv [1000, 1001, 1002, 1003] (by decide)
              clear hE9
              simp only [List.cons_append, List.nil_append] at hv
              go_wp2
              have hik := HIR.out
              go_roundw
              case rel => exact ⟨i + 1, nm, sv1, R2, acc ++ cs1, [], by omega, by go_num, hv.drop, Lib.hid (by rw [idsI_app, HE2.out, HNE.out]; exact OwnL.nil 1), Lib.hid (fun x hx => HR2.out x (HRS.out x hx)), HI1, Lib.hid (by have := HNK.out; have := HNM.out; have := HTE.out; omega), HST⟩
              case measure => simp [intOf]; omega
            · have HGD := Lib.hid HGD0
              have HNE := Lib.hid hne
              have HB1 : Hid ((idsI cs1).length / 1 ≤ maxLen) := Lib.hid (by
                have := len32 HC.out HST.out.1
                rw [List.length_append] at this
                rw [idsI_len, Nat.div_one]; unfold maxLen; omega)
              have HB2 : Hid ((idsI cs1).length / 1 * 8 ≤ 140737488355328) := Lib.hid (by
                have := len32 HC.out HST.out.1
                rw [List.length_append] at this
                rw [idsI_len, Nat.div_one]; omega)
              clear hne HGD0
              refine Any.wp_region_walk [⟨[1000], none⟩, ⟨[], none⟩, ⟨[], none⟩, ⟨[], some 6⟩, ⟨[1001], some 1001⟩, ⟨[], none⟩] [.val, .val, .val, .own (AppRow · 1 (idsI cs1)), .put, .pure] (by kernel_rfl) (by kernel_rfl) hv.vars ?_
              simp only [List.length_cons, List.length_nil, Nat.zero_add, Any.someVals]
              iterate 6 apply Exists.intro
              repeat (first
                | (refine Any.E_off rfl ?_; simp only [Act.put, List.setIfInBounds_toArray, List.set_cons_succ, List.set_cons_zero])
                | (apply Any.E_pureq rfl rfl rfl
                   case h => intro K hK; go_big_quiet_op; (refine hK _ ?_; rfl)
                   case hr => exact fun _ => rfl
                   simp only [Act.put, List.setIfInBounds_toArray, List.set_cons_succ, List.set_cons_zero])
                | (apply Any.E_val rfl rfl rfl rfl
                   case h =>
                     intro E' hA K hK
                     first
                       | ((with_reducible refine Any.at_qload (T := 26) ?_); refine Any.q_ldv 1000 hA (by decide) rfl rfl 9 _ Try.underlying26 rfl infoWh (by decide) HSZ1.out ?_; refine hK _ ?_; rfl)
                       | (go_big_quiet_op; first
                         | (refine hK _ ?_; rfl)
                         | (refine ⟨_, fun _ _ => rfl, ?_⟩; refine hK _ ?_; rfl)
                         | (apply Exists.intro; refine ⟨fun w1 hw1 => ?_, ?_⟩; · (first
                             | fail)
                            refine hK _ ?_; rfl))
                   case hD => rfl
                   simp only [Act.put, List.setIfInBounds_toArray, List.set_cons_succ, List.set_cons_zero])
                | ((with_reducible refine Any.at_ealloc ?_); refine Any.E_lay rfl rfl rfl (fun _ => rfl) ?_; intro B; simp only [Act.put, List.setIfInBounds_toArray, List.set_cons_succ, List.set_cons_zero])
                | ((with_reducible refine Any.at_eapp (t := 31) ?_); refine Any.E_appnilR rfl rfl rfl rfl rfl HGD.out HNE.out (.int .i64 0) 8 Try.underlying31 infoIz rfl (by decide) (idsI_one _) HB1.out HB2.out ?_; intro v9 x9 hW9; have hq9 := hW9; obtain ⟨n9, c9, rfl, g9⟩ := hq9; clear g9; replace hW9 := Lib.hid hW9; simp only [Act.put, List.setIfInBounds_toArray, List.set_cons_succ, List.set_cons_zero])
                | ((with_reducible refine Any.at_estore (T := 26) ?_); refine Any.E_putv (T := 26) rfl rfl rfl rfl rfl rfl 9 infoWh HSZ1.out HSK.out HON1.out ?_; simp only [Act.put, List.setIfInBounds_toArray, List.set_cons_succ, List.set_cons_zero]))
              try any_goals exact undef
              refine Any.E_nil ?_
              intro w9 hE9
              replace hv : Mem w w9 ([(b12, (rowW nm sv1)), (b10, (rowW nm sv1))] ++ [(b7, rowW en sv7), (b3, rowW now sv)] ++ [x9]) _ := hE9.mem hv [1000, 1001, 1002, 1003, 6] (by decide)
              clear hE9
              simp only [List.cons_append, List.nil_append] at hv
              go_wp2
              have hik := HIR.out
              go_roundw
              case rel => exact ⟨i + 1, nm, sv1, R2, acc ++ cs1, [x9], by omega, by go_num, hv.drop, Lib.hid (by rw [idsI_app, HE2.out, List.nil_append]; exact OwnL.row hW9.out), Lib.hid (fun x hx => HR2.out x (HRS.out x hx)), HI1, Lib.hid (by have := HNK.out; have := HNM.out; have := HTE.out; omega), HST⟩
              case measure => simp [intOf]; omega
          · subst e3
            have hrow := Lib.hid hrw
            have HGD := Lib.hid (Any.rd_start hv HX1.out)
            have HB1 : Hid (((idsI acc).length + (idsI cs1).length) / 1 ≤ maxLen) := Lib.hid (by
              have := len32 HC.out HST.out.1
              rw [List.length_append] at this
              rw [idsI_len, idsI_len, Nat.div_one]; unfold maxLen; omega)
            have HB2 : Hid (((idsI acc).length + (idsI cs1).length) / 1 * 8 ≤ 140737488355328) := Lib.hid (by
              have := len32 HC.out HST.out.1
              rw [List.length_append] at this
              rw [idsI_len, idsI_len, Nat.div_one]; omega)
            clear hrw
            refine Any.wp_region_walk [⟨[1000], none⟩, ⟨[], none⟩, ⟨[], none⟩, ⟨[], some 1004⟩, ⟨[1001], some 1001⟩, ⟨[], none⟩] [.val, .val, .val, .own (AppRow · 1 (idsI acc ++ idsI cs1)), .put, .pure] (by kernel_rfl) (by kernel_rfl) hv.vars ?_
            simp only [List.length_cons, List.length_nil, Nat.zero_add, Any.someVals]
            iterate 6 apply Exists.intro
            repeat (first
              | (refine Any.E_off rfl ?_; simp only [Act.put, List.setIfInBounds_toArray, List.set_cons_succ, List.set_cons_zero])
              | (apply Any.E_pureq rfl rfl rfl
                 case h => intro K hK; go_big_quiet_op; (refine hK _ ?_; rfl)
                 case hr => exact fun _ => rfl
                 simp only [Act.put, List.setIfInBounds_toArray, List.set_cons_succ, List.set_cons_zero])
              | (apply Any.E_val rfl rfl rfl rfl
                 case h =>
                   intro E' hA K hK
                   first
                     | ((with_reducible refine Any.at_qload (T := 26) ?_); refine Any.q_ldv 1000 hA (by decide) rfl rfl 9 _ Try.underlying26 rfl infoWh (by decide) HSZ1.out ?_; refine hK _ ?_; rfl)
                     | (go_big_quiet_op; first
                       | (refine hK _ ?_; rfl)
                       | (refine ⟨_, fun _ _ => rfl, ?_⟩; refine hK _ ?_; rfl)
                       | (apply Exists.intro; refine ⟨fun w1 hw1 => ?_, ?_⟩; · (first
                           | fail)
                          refine hK _ ?_; rfl))
                 case hD => rfl
                 simp only [Act.put, List.setIfInBounds_toArray, List.set_cons_succ, List.set_cons_zero])
              | ((with_reducible refine Any.at_ealloc ?_); refine Any.E_lay rfl rfl rfl (fun _ => rfl) ?_; intro B; simp only [Act.put, List.setIfInBounds_toArray, List.set_cons_succ, List.set_cons_zero])
              | ((with_reducible refine Any.at_eapp (t := 31) ?_); refine Any.E_appR rfl rfl rfl rfl rfl hrow.out rfl HGD.out (.int .i64 0) 8 Try.underlying31 infoIz rfl (by decide) (idsI_one _) HB1.out HB2.out ?_; intro v9 x9 hW9; have hq9 := hW9; obtain ⟨n9, c9, rfl, g9⟩ := hq9; clear g9; replace hW9 := Lib.hid hW9; simp only [Act.put, List.setIfInBounds_toArray, List.set_cons_succ, List.set_cons_zero])
              | ((with_reducible refine Any.at_estore (T := 26) ?_); refine Any.E_putv (T := 26) rfl rfl rfl rfl rfl rfl 9 infoWh HSZ1.out HSK.out HON1.out ?_; simp only [Act.put, List.setIfInBounds_toArray, List.set_cons_succ, List.set_cons_zero]))
            try any_goals exact undef
            refine Any.E_nil ?_
            intro w9 hE9
            replace hv : Mem w w9 ([(b12, (rowW nm sv1)), (b10, (rowW nm sv1))] ++ [(b7, rowW en sv7), (b3, rowW now sv)] ++ [x9]) _ := hE9.mem hv [1000, 1001, 1002, 1003, 1004] (by decide)
            clear hE9
            simp only [List.cons_append, List.nil_append] at hv
            go_wp2
            have hik := HIR.out
            go_roundw
            case rel => exact ⟨i + 1, nm, sv1, R2, acc ++ cs1, [x9], by omega, by go_num, hv.drop, Lib.hid (by rw [idsI_app]; exact OwnL.row hW9.out), Lib.hid (fun x hx => HR2.out x (HRS.out x hx)), HI1, Lib.hid (by have := HNK.out; have := HNM.out; have := HTE.out; omega), HST⟩
            case measure => simp [intOf]; omega
      · have e0 : decide ((tt : Int) ≤ (en : Int)) = false := decide_eq_false (by omega)
        have e0z : decide (tt ≤ en) = false := decide_eq_false hte
        clear hte
        go_wp2_with (first
          | ((with_reducible refine at_load (T := 22) ?_); refine wl_rd rfl (c := (tl.map fun n => Value.int .u64 (n : Nat))) (hv.rd (HRS.out _ (HR7.out _ HT.out))) i rfl _ Try.underlying22 rfl (.int .u64 (tt : Nat)) HX.out ?_))
        have hik := HIR.out
        go_roundw
        case rel => exact ⟨i + 1, nk, svk, R1, acc, O, by omega, by go_num, hv, HOU, HRS, HIK, HNK, HAC⟩
        case measure => simp [intOf]; omega
    · have hki : ¬ (i : Int) < (tn : Int) := by omega
      clear hi2 hi0
      have HNK0 : Hid (((rowW nk svk) : Array Value)[0]? = some (.int .u64 (nk : Nat))) := Lib.hid rfl
      have HMK : Hid (max nk en = en) := Lib.hid (Nat.max_eq_right HNK.out.2)
      have HN100 : Hid (cs7.length ≤ 100000) := Lib.hid (Nat.le_trans (len32 HC.out HP7.out.1) (by decide))
      have HCE : Hid (chkW en (S.map (leftF en)) = true) := Lib.hid (chk_left HC.out HEM.out)
      have HOKE : Hid (OkS (S.map (leftF en))) := Lib.hid (HOK.out.left en)
      by_cases hlt : nk < en
      · have f0 : decide ((nk : Int) < (en : Int)) = true := decide_eq_true (by omega)
        have f0z : decide (nk < en) = true := decide_eq_true hlt
        clear hlt
        go_wp2_with (first
          | ((with_reducible refine at_load (T := 26) ?_); refine wl_ldv rfl b10 rfl _ (hv.vars.row (by first | exact .head _ | exact .tail _ (.head _) | exact .tail _ (.tail _ (.head _)) | exact .tail _ (.tail _ (.tail _ (.head _))) | exact .tail _ (.tail _ (.tail _ (.tail _ (.head _)))) | exact .tail _ (.tail _ (.tail _ (.tail _ (.tail _ (.head _))))) | exact .tail _ (.tail _ (.tail _ (.tail _ (.tail _ (.tail _ (.head _)))))) | exact .tail _ (.tail _ (.tail _ (.tail _ (.tail _ (.tail _ (.tail _ (.head _))))))))) 9 _ Try.underlying26 rfl infoWh (by decide) HSK.out ?_)
          | (go_at_call 10; (with_reducible refine (Adv_law hv HIK.out HOKK.out HCK.out en HEM.out (nm := en) HMK.out).mono ?_); rintro e w1 ⟨sv14, va14, vn14, vc14, cs14, R14, rfl, hv1, hi1, hx1, hl1, hp1, hs1, hs⟩; replace hv := hv1; rw [left_lefts HNK.out.2] at hi1; rw [left_flat] at hp1; have HI14 := Lib.hid hi1; have HIF := HI14; have HX14 := Lib.hid hx1; have HST := Lib.hid (step_ok HMK.out HAC.out hp1 hs1); have HEQ : Hid (acc ++ cs14 = cs7) := Lib.hid (srt_unique HST.out.2 HP7.out.2 (HST.out.1.trans HP7.out.1.symm)); have HX7' := Lib.hid (hs _ (HRS.out _ HX7.out)); have HI7' := Lib.hid (HI7.out.mono fun x hx => hs x (HRS.out x hx)); have HIK' := Lib.hid (HIK.out.mono hs); have HN7 : Hid (cs7.length ≤ 32) := Lib.hid (len32 HC.out HP7.out.1); have HB1 : Hid (((idsI acc).length + (idsI cs14).length) / 1 ≤ maxLen) := Lib.hid (by have h9 := HN7.out; rw [← HEQ.out, List.length_append] at h9; rw [idsI_len, idsI_len, Nat.div_one]; unfold maxLen; omega); have HB2 : Hid (((idsI acc).length + (idsI cs14).length) / 1 * 8 ≤ 140737488355328) := Lib.hid (by have h9 := HN7.out; rw [← HEQ.out, List.length_append] at h9; rw [idsI_len, idsI_len, Nat.div_one]; omega); clear hv1 hi1 hx1 hl1 hp1 hs1 hs)
          | ((with_reducible refine at_alloc (T := 26) (dst := some 14) ?_); refine wl_newb rfl (rowW 0 nilW) 26 (fun _ => rfl) ?_; intro b14 w2 hm2; replace hv := hv.madeAt hm2; clear hm2)
          | ((with_reducible refine at_store (T := 26) ?_); refine wl_stv rfl b14 rfl _ rfl _ (hv.vars.row (by first | exact .head _ | exact .tail _ (.head _) | exact .tail _ (.tail _ (.head _)) | exact .tail _ (.tail _ (.tail _ (.head _))) | exact .tail _ (.tail _ (.tail _ (.tail _ (.head _)))) | exact .tail _ (.tail _ (.tail _ (.tail _ (.tail _ (.head _))))) | exact .tail _ (.tail _ (.tail _ (.tail _ (.tail _ (.tail _ (.head _)))))) | exact .tail _ (.tail _ (.tail _ (.tail _ (.tail _ (.tail _ (.tail _ (.head _))))))))) (hv.vars.sft (by first | exact .head _ | exact .tail _ (.head _) | exact .tail _ (.tail _ (.head _)) | exact .tail _ (.tail _ (.tail _ (.head _))) | exact .tail _ (.tail _ (.tail _ (.tail _ (.head _)))) | exact .tail _ (.tail _ (.tail _ (.tail _ (.tail _ (.head _))))) | exact .tail _ (.tail _ (.tail _ (.tail _ (.tail _ (.tail _ (.head _)))))) | exact .tail _ (.tail _ (.tail _ (.tail _ (.tail _ (.tail _ (.tail _ (.head _))))))))) 9 infoWh (rowW_size HI14.out.1) rfl (rowW_one (now := en) hv HI14.out) ?_; intro w2 hw2; (first | (replace hv := hv.set 0 rfl hw2) | (replace hv := hv.set 1 rfl hw2) | (replace hv := hv.set 2 rfl hw2) | (replace hv := hv.set 3 rfl hw2)); clear hw2; simp only [List.set] at hv)
          | ((with_reducible refine at_load (T := 22) ?_); refine wl_ldc rfl b10 0 rfl _ (hv.vars.row (by first | exact .head _ | exact .tail _ (.head _) | exact .tail _ (.tail _ (.head _)) | exact .tail _ (.tail _ (.tail _ (.head _))) | exact .tail _ (.tail _ (.tail _ (.tail _ (.head _)))) | exact .tail _ (.tail _ (.tail _ (.tail _ (.tail _ (.head _))))) | exact .tail _ (.tail _ (.tail _ (.tail _ (.tail _ (.tail _ (.head _)))))) | exact .tail _ (.tail _ (.tail _ (.tail _ (.tail _ (.tail _ (.tail _ (.head _))))))))) _ Try.underlying22 rfl (.int .u64 (nk : Nat)) HNK0.out ?_)
          | ((with_reducible refine at_load (T := 26) ?_); refine wl_ldv rfl b14 rfl _ (hv.vars.row (by first | exact .head _ | exact .tail _ (.head _) | exact .tail _ (.tail _ (.head _)) | exact .tail _ (.tail _ (.tail _ (.head _))) | exact .tail _ (.tail _ (.tail _ (.tail _ (.head _)))) | exact .tail _ (.tail _ (.tail _ (.tail _ (.tail _ (.head _))))) | exact .tail _ (.tail _ (.tail _ (.tail _ (.tail _ (.tail _ (.head _)))))) | exact .tail _ (.tail _ (.tail _ (.tail _ (.tail _ (.tail _ (.tail _ (.head _))))))))) 9 _ Try.underlying26 rfl infoWh (by decide) (rowW_size HI14.out.1) ?_)
          | ((with_reducible refine at_store (T := 26) ?_); refine wl_stv rfl b10 rfl _ rfl _ (hv.vars.row (by first | exact .head _ | exact .tail _ (.head _) | exact .tail _ (.tail _ (.head _)) | exact .tail _ (.tail _ (.tail _ (.head _))) | exact .tail _ (.tail _ (.tail _ (.tail _ (.head _)))) | exact .tail _ (.tail _ (.tail _ (.tail _ (.tail _ (.head _))))) | exact .tail _ (.tail _ (.tail _ (.tail _ (.tail _ (.tail _ (.head _)))))) | exact .tail _ (.tail _ (.tail _ (.tail _ (.tail _ (.tail _ (.tail _ (.head _))))))))) (hv.vars.sft (by first | exact .head _ | exact .tail _ (.head _) | exact .tail _ (.tail _ (.head _)) | exact .tail _ (.tail _ (.tail _ (.head _))) | exact .tail _ (.tail _ (.tail _ (.tail _ (.head _)))) | exact .tail _ (.tail _ (.tail _ (.tail _ (.tail _ (.head _))))) | exact .tail _ (.tail _ (.tail _ (.tail _ (.tail _ (.tail _ (.head _)))))) | exact .tail _ (.tail _ (.tail _ (.tail _ (.tail _ (.tail _ (.tail _ (.head _))))))))) 9 infoWh (rowW_size HI14.out.1) HSK.out (rowW_one (now := en) hv HI14.out) ?_; intro w2 hw2; (first | (replace hv := hv.set 0 rfl hw2) | (replace hv := hv.set 1 rfl hw2) | (replace hv := hv.set 2 rfl hw2) | (replace hv := hv.set 3 rfl hw2)); clear hw2; simp only [List.set] at hv)
          | ((with_reducible refine at_append (t := 31) ?_); have hvA := mem4 hv; refine wl_appO (A := [_, _, _, _]) (B := []) rfl rfl HOU.out hvA (.int .i64 0) 8 Try.underlying31 infoIz rfl (by decide) rfl (hv.rd HX14.out) (idsI_one _) HB1.out HB2.out ?_; intro v2 w7 O2 hO2 hv1; replace hv := mem4' hv1; clear hvA hv1; rw [← idsI_app, HEQ.out] at hO2; have hq2 := hO2.slice; obtain ⟨ua, un, uc, rfl, hq3⟩ := hq2; clear hq3; replace hO2 := Lib.hid hO2)
          | (go_at_call 11; (with_reducible refine (Ints_r (l := cs7) HN100.out (hO2.out.rdm hv (fun p hp => List.mem_cons_of_mem _ (List.mem_cons_of_mem _ (List.mem_cons_of_mem _ (List.mem_cons_of_mem _ hp))))) (hv.rd HX7'.out)).mono ?_); rintro e w1 ⟨rfl, hn1⟩; replace hv := hv.new hn1; clear hn1)
          | ((with_reducible refine at_load (T := 26) ?_); refine wl_ldv rfl b7 rfl _ (hv.vars.row (by first | exact .head _ | exact .tail _ (.head _) | exact .tail _ (.tail _ (.head _)) | exact .tail _ (.tail _ (.tail _ (.head _))) | exact .tail _ (.tail _ (.tail _ (.tail _ (.head _)))) | exact .tail _ (.tail _ (.tail _ (.tail _ (.tail _ (.head _))))) | exact .tail _ (.tail _ (.tail _ (.tail _ (.tail _ (.tail _ (.head _)))))) | exact .tail _ (.tail _ (.tail _ (.tail _ (.tail _ (.tail _ (.tail _ (.head _))))))))) 9 _ Try.underlying26 rfl infoWh (by decide) (rowW_size HI7'.out.1) ?_)
          | ((with_reducible refine at_load (T := 26) ?_); refine wl_ldv rfl b10 rfl _ (hv.vars.row (by first | exact .head _ | exact .tail _ (.head _) | exact .tail _ (.tail _ (.head _)) | exact .tail _ (.tail _ (.tail _ (.head _))) | exact .tail _ (.tail _ (.tail _ (.tail _ (.head _)))) | exact .tail _ (.tail _ (.tail _ (.tail _ (.tail _ (.head _))))) | exact .tail _ (.tail _ (.tail _ (.tail _ (.tail _ (.tail _ (.head _)))))) | exact .tail _ (.tail _ (.tail _ (.tail _ (.tail _ (.tail _ (.tail _ (.head _))))))))) 9 _ Try.underlying26 rfl infoWh (by decide) (rowW_size HIF.out.1) ?_)
          | (go_at_call 12; (with_reducible refine (Same_M hv HI7'.out HIF.out HOKE.out).mono ?_); rintro e w1 ⟨rfl, hn1⟩; replace hv := hv.new hn1; clear hn1)
          | (go_at_call 13; (with_reducible refine (Check_M hv HI7'.out HOKE.out (b := true) HCE.out).mono ?_); rintro e w1 ⟨rfl, hn1⟩; replace hv := hv.new hn1; clear hn1)
          | (go_at_call 8; (with_reducible refine (heads16 _).mono ?_); rintro e w1 ⟨rfl, hn1⟩; replace hv := hv.new hn1; clear hn1))
        go_ret
        exact ⟨rfl, hv.below⟩
      · have f0 : decide ((nk : Int) < (en : Int)) = false := decide_eq_false (by omega)
        have f0z : decide (nk < en) = false := decide_eq_false hlt
        have HNE2 : Hid (nk = en) := Lib.hid (by have := HNK.out; omega)
        clear hlt
        go_wp2_with (first
          | ((with_reducible refine at_load (T := 26) ?_); refine wl_ldv rfl b10 rfl _ (hv.vars.row (by first | exact .head _ | exact .tail _ (.head _) | exact .tail _ (.tail _ (.head _)) | exact .tail _ (.tail _ (.tail _ (.head _))) | exact .tail _ (.tail _ (.tail _ (.tail _ (.head _)))) | exact .tail _ (.tail _ (.tail _ (.tail _ (.tail _ (.head _))))) | exact .tail _ (.tail _ (.tail _ (.tail _ (.tail _ (.tail _ (.head _)))))) | exact .tail _ (.tail _ (.tail _ (.tail _ (.tail _ (.tail _ (.tail _ (.head _))))))))) 9 _ Try.underlying26 rfl infoWh (by decide) HSK.out ?_)
          | (go_at_call 10; (with_reducible refine (Adv_law hv HIK.out HOKK.out HCK.out en HEM.out (nm := en) HMK.out).mono ?_); rintro e w1 ⟨sv14, va14, vn14, vc14, cs14, R14, rfl, hv1, hi1, hx1, hl1, hp1, hs1, hs⟩; replace hv := hv1; rw [left_lefts HNK.out.2] at hi1; rw [left_flat] at hp1; have HI14 := Lib.hid hi1; have HX14 := Lib.hid hx1; have HST := Lib.hid (step_ok HMK.out HAC.out hp1 hs1); have HEQ : Hid (acc ++ cs14 = cs7) := Lib.hid (srt_unique HST.out.2 HP7.out.2 (HST.out.1.trans HP7.out.1.symm)); have HX7' := Lib.hid (hs _ (HRS.out _ HX7.out)); have HI7' := Lib.hid (HI7.out.mono fun x hx => hs x (HRS.out x hx)); have HIF : Hid (InW R14 svk (S.map (leftF en))) := Lib.hid (by have h9 := HIK.out.mono hs; rw [HNE2.out] at h9; exact h9); have HIK' := Lib.hid (HIK.out.mono hs); have HN7 : Hid (cs7.length ≤ 32) := Lib.hid (len32 HC.out HP7.out.1); have HB1 : Hid (((idsI acc).length + (idsI cs14).length) / 1 ≤ maxLen) := Lib.hid (by have h9 := HN7.out; rw [← HEQ.out, List.length_append] at h9; rw [idsI_len, idsI_len, Nat.div_one]; unfold maxLen; omega); have HB2 : Hid (((idsI acc).length + (idsI cs14).length) / 1 * 8 ≤ 140737488355328) := Lib.hid (by have h9 := HN7.out; rw [← HEQ.out, List.length_append] at h9; rw [idsI_len, idsI_len, Nat.div_one]; omega); clear hv1 hi1 hx1 hl1 hp1 hs1 hs)
          | ((with_reducible refine at_alloc (T := 26) (dst := some 14) ?_); refine wl_newb rfl (rowW 0 nilW) 26 (fun _ => rfl) ?_; intro b14 w2 hm2; replace hv := hv.madeAt hm2; clear hm2)
          | ((with_reducible refine at_store (T := 26) ?_); refine wl_stv rfl b14 rfl _ rfl _ (hv.vars.row (by first | exact .head _ | exact .tail _ (.head _) | exact .tail _ (.tail _ (.head _)) | exact .tail _ (.tail _ (.tail _ (.head _))) | exact .tail _ (.tail _ (.tail _ (.tail _ (.head _)))) | exact .tail _ (.tail _ (.tail _ (.tail _ (.tail _ (.head _))))) | exact .tail _ (.tail _ (.tail _ (.tail _ (.tail _ (.tail _ (.head _)))))) | exact .tail _ (.tail _ (.tail _ (.tail _ (.tail _ (.tail _ (.tail _ (.head _))))))))) (hv.vars.sft (by first | exact .head _ | exact .tail _ (.head _) | exact .tail _ (.tail _ (.head _)) | exact .tail _ (.tail _ (.tail _ (.head _))) | exact .tail _ (.tail _ (.tail _ (.tail _ (.head _)))) | exact .tail _ (.tail _ (.tail _ (.tail _ (.tail _ (.head _))))) | exact .tail _ (.tail _ (.tail _ (.tail _ (.tail _ (.tail _ (.head _)))))) | exact .tail _ (.tail _ (.tail _ (.tail _ (.tail _ (.tail _ (.tail _ (.head _))))))))) 9 infoWh (rowW_size HI14.out.1) rfl (rowW_one (now := en) hv HI14.out) ?_; intro w2 hw2; (first | (replace hv := hv.set 0 rfl hw2) | (replace hv := hv.set 1 rfl hw2) | (replace hv := hv.set 2 rfl hw2) | (replace hv := hv.set 3 rfl hw2)); clear hw2; simp only [List.set] at hv)
          | ((with_reducible refine at_load (T := 22) ?_); refine wl_ldc rfl b10 0 rfl _ (hv.vars.row (by first | exact .head _ | exact .tail _ (.head _) | exact .tail _ (.tail _ (.head _)) | exact .tail _ (.tail _ (.tail _ (.head _))) | exact .tail _ (.tail _ (.tail _ (.tail _ (.head _)))) | exact .tail _ (.tail _ (.tail _ (.tail _ (.tail _ (.head _))))) | exact .tail _ (.tail _ (.tail _ (.tail _ (.tail _ (.tail _ (.head _)))))) | exact .tail _ (.tail _ (.tail _ (.tail _ (.tail _ (.tail _ (.tail _ (.head _))))))))) _ Try.underlying22 rfl (.int .u64 (nk : Nat)) HNK0.out ?_)
          | ((with_reducible refine at_append (t := 31) ?_); have hvA := mem4 hv; refine wl_appO (A := [_, _, _, _]) (B := []) rfl rfl HOU.out hvA (.int .i64 0) 8 Try.underlying31 infoIz rfl (by decide) rfl (hv.rd HX14.out) (idsI_one _) HB1.out HB2.out ?_; intro v2 w7 O2 hO2 hv1; replace hv := mem4' hv1; clear hvA hv1; rw [← idsI_app, HEQ.out] at hO2; have hq2 := hO2.slice; obtain ⟨ua, un, uc, rfl, hq3⟩ := hq2; clear hq3; replace hO2 := Lib.hid hO2)
          | (go_at_call 11; (with_reducible refine (Ints_r (l := cs7) HN100.out (hO2.out.rdm hv (fun p hp => List.mem_cons_of_mem _ (List.mem_cons_of_mem _ (List.mem_cons_of_mem _ (List.mem_cons_of_mem _ hp))))) (hv.rd HX7'.out)).mono ?_); rintro e w1 ⟨rfl, hn1⟩; replace hv := hv.new hn1; clear hn1)
          | ((with_reducible refine at_load (T := 26) ?_); refine wl_ldv rfl b7 rfl _ (hv.vars.row (by first | exact .head _ | exact .tail _ (.head _) | exact .tail _ (.tail _ (.head _)) | exact .tail _ (.tail _ (.tail _ (.head _))) | exact .tail _ (.tail _ (.tail _ (.tail _ (.head _)))) | exact .tail _ (.tail _ (.tail _ (.tail _ (.tail _ (.head _))))) | exact .tail _ (.tail _ (.tail _ (.tail _ (.tail _ (.tail _ (.head _)))))) | exact .tail _ (.tail _ (.tail _ (.tail _ (.tail _ (.tail _ (.tail _ (.head _))))))))) 9 _ Try.underlying26 rfl infoWh (by decide) (rowW_size HI7'.out.1) ?_)
          | (go_at_call 12; (with_reducible refine (Same_M2 hv HI7'.out HIF.out HOKE.out HNE2.out).mono ?_); rintro e w1 ⟨rfl, hn1⟩; replace hv := hv.new hn1; clear hn1)
          | (go_at_call 13; (with_reducible refine (Check_M hv HI7'.out HOKE.out (b := true) HCE.out).mono ?_); rintro e w1 ⟨rfl, hn1⟩; replace hv := hv.new hn1; clear hn1)
          | (go_at_call 8; (with_reducible refine (heads16 _).mono ?_); rintro e w1 ⟨rfl, hn1⟩; replace hv := hv.new hn1; clear hn1))
        go_ret
        exact ⟨rfl, hv.below⟩
theorem WheelSteps_any (now : Nat) (sv : List Value) (S : List (List Tm)) (tv : Value) (tl : List Nat) (en : Nat) (w : World) (R : List (Nat × Value × List Value)) (hr0 : ∀ x ∈ R, Rd w x.1 x.2.1 x.2.2) (hi : InW R sv S) (hgd : ∀ l ∈ S, ∀ t ∈ l, (Lit.int .i64 t.2).wf = true) (ht : Rd w 1 tv (tl.map fun n => Value.int .u64 (n : Nat))) : Calls Try.prog 4 #[.agg (rowW now sv), tv, .int .u64 (en : Nat)] w fun e w' => e = .returned (.bool true) ∧ New w w' := by
  obtain ⟨ta, tn, tc, rfl, _⟩ := id ht
  have hr1 : ∀ x ∈ (1, Value.slice ta tn tc, (tl.map fun n => Value.int .u64 (n : Nat))) :: R, Rd w x.1 x.2.1 x.2.2 := fun x hx => by
    rcases List.mem_cons.1 hx with rfl | hx
    · exact ht
    · exact hr0 x hx
  have hi1 := hi.cons (1, Value.slice ta tn tc, (tl.map fun n => Value.int .u64 (n : Nat)))
  cases hf : fewW S with
  | false => exact Steps_few now sv S ta tn tc tl en w _ hr1 hi1 hf
  | true =>
    cases hc : chkW now S with
    | false => exact Steps_chk now sv S ta tn tc tl en w _ hr1 hi1 hf hc
    | true =>
      by_cases h1 : 60 < tn
      · exact Steps_long now sv S ta tn tc tl en w _ hr1 hi1 hf hc h1
      · by_cases h2 : 1099511627776 < en
        · exact Steps_far now sv S ta tn tc tl en w _ hr1 hi1 hf hc (by omega) h2
        · by_cases h3 : en ≤ now
          · exact Steps_past now sv S ta tn tc tl en w _ hr1 hi1 hf hc (by omega) (by omega) h3
          · exact Steps_main now sv S ta tn tc tl en w _ hr1 hi1 hgd hf hc (by omega) (by omega) (by omega) (List.mem_cons_self ..)
end Go.Proofs.Ytfblognifnnadaa
