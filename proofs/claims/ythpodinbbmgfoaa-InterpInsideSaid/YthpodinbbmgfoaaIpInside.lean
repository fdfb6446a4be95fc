/-
  The walk of the statement InterpInside.
-/
import Derived.Test.YthpodinbbmgfoaaIpHead
import Derived.Test.YthpodinbbmgfoaaIpOne
import Derived.Test.YthpodinbbmgfoaaIpInsP
import Derived.Test.YthpodinbbmgfoaaCdRef
import Derived.Test.YthpodinbbmgfoaaPgEq
set_option linter.unusedVariables false
set_option linter.unusedSimpArgs false
namespace Go.Proofs.Ythpodinbbmgfoaa
open Go.Proofs.Ip Go.Proofs.Pt Go.Proofs.Pg Go.Proofs.Cd Go.RowKit Go.Shelf
theorem small_yes (st pc sk er : Int) (wk : Nat) (sa ca : Option Addr) (sn sc cn cc : Nat) (h1 : sn ≤ 80) (h2 : cn ≤ 80) (w : World) : Calls Try.prog 72 #[.agg #[.int .i64 st, .int .i64 pc, .slice sa sn sc, .slice ca cn cc, .int .u64 (wk : Nat), .int .i64 sk, .int .i64 er]] w fun e w' => e = .returned (.bool true) ∧ New w w' := by
  have q1 : decide ((sn : Int) ≤ 80) = true := decide_eq_true (by omega)
  have q2 : decide ((cn : Int) ≤ 80) = true := decide_eq_true (by omega)
  clear h1 h2
  have hv := Mem.nil w
  go_enter Try.func72, Try.ntmps72
  go_wp2_with (first
    | ((with_reducible refine at_box (T := 79) (dst := some 1) ?_); refine wl_newb rfl #[.int .i64 st, .int .i64 pc, .slice sa sn sc, .slice ca cn cc, .int .u64 (wk : Nat), .int .i64 sk, .int .i64 er] 79 (fun _ => rfl) ?_; intro b1 w2 hm2; replace hv := hv.madeAt hm2; clear hm2)
    | ((with_reducible refine at_load (T := 29) ?_); refine wl_ldc rfl _ _ rfl _ (hv.vars.row (by first | exact .head _ | exact .tail _ (.head _) | exact .tail _ (.tail _ (.head _)) | exact .tail _ (.tail _ (.tail _ (.head _))) | exact .tail _ (.tail _ (.tail _ (.tail _ (.head _)))) | exact .tail _ (.tail _ (.tail _ (.tail _ (.tail _ (.head _))))) | exact .tail _ (.tail _ (.tail _ (.tail _ (.tail _ (.tail _ (.head _)))))) | exact .tail _ (.tail _ (.tail _ (.tail _ (.tail _ (.tail _ (.tail _ (.head _))))))))) _ Try.underlying29 rfl _ rfl ?_)
    | ((with_reducible refine at_load (T := 32) ?_); refine wl_ldc rfl _ _ rfl _ (hv.vars.row (by first | exact .head _ | exact .tail _ (.head _) | exact .tail _ (.tail _ (.head _)) | exact .tail _ (.tail _ (.tail _ (.head _))) | exact .tail _ (.tail _ (.tail _ (.tail _ (.head _)))) | exact .tail _ (.tail _ (.tail _ (.tail _ (.tail _ (.head _))))) | exact .tail _ (.tail _ (.tail _ (.tail _ (.tail _ (.tail _ (.head _)))))) | exact .tail _ (.tail _ (.tail _ (.tail _ (.tail _ (.tail _ (.tail _ (.head _))))))))) _ Try.underlying32 rfl _ rfl ?_))
  go_ret
  exact ⟨rfl, hv.below⟩
theorem small_no1 (st pc sk er : Int) (wk : Nat) (sa ca : Option Addr) (sn sc cn cc : Nat) (h1 : 80 < sn) (w : World) : Calls Try.prog 72 #[.agg #[.int .i64 st, .int .i64 pc, .slice sa sn sc, .slice ca cn cc, .int .u64 (wk : Nat), .int .i64 sk, .int .i64 er]] w fun e w' => e = .returned (.bool false) ∧ New w w' := by
  have q1 : decide ((sn : Int) ≤ 80) = false := decide_eq_false (by omega)
  clear h1
  have hv := Mem.nil w
  go_enter Try.func72, Try.ntmps72
  go_wp2_with (first
    | ((with_reducible refine at_box (T := 79) (dst := some 1) ?_); refine wl_newb rfl #[.int .i64 st, .int .i64 pc, .slice sa sn sc, .slice ca cn cc, .int .u64 (wk : Nat), .int .i64 sk, .int .i64 er] 79 (fun _ => rfl) ?_; intro b1 w2 hm2; replace hv := hv.madeAt hm2; clear hm2)
    | ((with_reducible refine at_load (T := 29) ?_); refine wl_ldc rfl _ _ rfl _ (hv.vars.row (by first | exact .head _ | exact .tail _ (.head _) | exact .tail _ (.tail _ (.head _)) | exact .tail _ (.tail _ (.tail _ (.head _))) | exact .tail _ (.tail _ (.tail _ (.tail _ (.head _)))) | exact .tail _ (.tail _ (.tail _ (.tail _ (.tail _ (.head _))))) | exact .tail _ (.tail _ (.tail _ (.tail _ (.tail _ (.tail _ (.head _)))))) | exact .tail _ (.tail _ (.tail _ (.tail _ (.tail _ (.tail _ (.tail _ (.head _))))))))) _ Try.underlying29 rfl _ rfl ?_)
    | ((with_reducible refine at_load (T := 32) ?_); refine wl_ldc rfl _ _ rfl _ (hv.vars.row (by first | exact .head _ | exact .tail _ (.head _) | exact .tail _ (.tail _ (.head _)) | exact .tail _ (.tail _ (.tail _ (.head _))) | exact .tail _ (.tail _ (.tail _ (.tail _ (.head _)))) | exact .tail _ (.tail _ (.tail _ (.tail _ (.tail _ (.head _))))) | exact .tail _ (.tail _ (.tail _ (.tail _ (.tail _ (.tail _ (.head _)))))) | exact .tail _ (.tail _ (.tail _ (.tail _ (.tail _ (.tail _ (.tail _ (.head _))))))))) _ Try.underlying32 rfl _ rfl ?_))
  go_ret
  exact ⟨rfl, hv.below⟩
theorem small_no2 (st pc sk er : Int) (wk : Nat) (sa ca : Option Addr) (sn sc cn cc : Nat) (h1 : sn ≤ 80) (h2 : 80 < cn) (w : World) : Calls Try.prog 72 #[.agg #[.int .i64 st, .int .i64 pc, .slice sa sn sc, .slice ca cn cc, .int .u64 (wk : Nat), .int .i64 sk, .int .i64 er]] w fun e w' => e = .returned (.bool false) ∧ New w w' := by
  have q1 : decide ((sn : Int) ≤ 80) = true := decide_eq_true (by omega)
  have q2 : decide ((cn : Int) ≤ 80) = false := decide_eq_false (by omega)
  clear h1 h2
  have hv := Mem.nil w
  go_enter Try.func72, Try.ntmps72
  go_wp2_with (first
    | ((with_reducible refine at_box (T := 79) (dst := some 1) ?_); refine wl_newb rfl #[.int .i64 st, .int .i64 pc, .slice sa sn sc, .slice ca cn cc, .int .u64 (wk : Nat), .int .i64 sk, .int .i64 er] 79 (fun _ => rfl) ?_; intro b1 w2 hm2; replace hv := hv.madeAt hm2; clear hm2)
    | ((with_reducible refine at_load (T := 29) ?_); refine wl_ldc rfl _ _ rfl _ (hv.vars.row (by first | exact .head _ | exact .tail _ (.head _) | exact .tail _ (.tail _ (.head _)) | exact .tail _ (.tail _ (.tail _ (.head _))) | exact .tail _ (.tail _ (.tail _ (.tail _ (.head _)))) | exact .tail _ (.tail _ (.tail _ (.tail _ (.tail _ (.head _))))) | exact .tail _ (.tail _ (.tail _ (.tail _ (.tail _ (.tail _ (.head _)))))) | exact .tail _ (.tail _ (.tail _ (.tail _ (.tail _ (.tail _ (.tail _ (.head _))))))))) _ Try.underlying29 rfl _ rfl ?_)
    | ((with_reducible refine at_load (T := 32) ?_); refine wl_ldc rfl _ _ rfl _ (hv.vars.row (by first | exact .head _ | exact .tail _ (.head _) | exact .tail _ (.tail _ (.head _)) | exact .tail _ (.tail _ (.tail _ (.head _))) | exact .tail _ (.tail _ (.tail _ (.tail _ (.head _)))) | exact .tail _ (.tail _ (.tail _ (.tail _ (.tail _ (.head _))))) | exact .tail _ (.tail _ (.tail _ (.tail _ (.tail _ (.tail _ (.head _)))))) | exact .tail _ (.tail _ (.tail _ (.tail _ (.tail _ (.tail _ (.tail _ (.head _))))))))) _ Try.underlying32 rfl _ rfl ?_))
  go_ret
  exact ⟨rfl, hv.below⟩
set_option maxRecDepth 100000 in
set_option maxHeartbeats 4000000 in
theorem Inside_out (st pc sk er : Int) (wk : Nat) (sa ca : Option Addr) (sn sc cn cc : Nat) (S : List Nat) (C : List Int) (la : Option Addr) (ln lcap : Nat) (l : List Cd.Inst) (b : Nat → Bool) (q : Nat → Nat → Nat) (wl : World) (hl : Rd wl 2 (.slice la ln lcap) (cellsI l)) (hg : ∀ x ∈ l, goodI x) (hs : Rd wl 1 (.slice sa sn sc) (cellsU S)) (hc : Rd wl 1 (.slice ca cn cc) (cellsN C))
    (hbad : Cd.chk l = false ∨ pc < 0 ∨ (ln : Int) ≤ pc ∨ 32 < sn ∨ 16 < cn) : Calls Try.prog 16 #[.slice la ln lcap, .agg #[.int .i64 st, .int .i64 pc, .slice sa sn sc, .slice ca cn cc, .int .u64 (wk : Nat), .int .i64 sk, .int .i64 er], .agg (pg b q)] wl fun e w' => e = .returned (.bool true) ∧ New wl w' := by
  have kC0 := fun w' h => RCheck_any (.slice la ln lcap) l w' h hg
  have hv := (((Mem.nil wl).old hl).old hc).old hs
  clear hl hc hs hg
  by_cases h0 : Cd.chk l = false
  · rw [h0] at kC0
    have kC : ∀ w', Rd w' 2 (.slice la ln lcap) (cellsI l) → Calls Try.prog 69 #[.slice la ln lcap] w' fun e w2 => e = .returned (.bool false) ∧ New w' w2 := kC0
    clear kC0 hbad h0
    go_enter Try.func16, Try.ntmps16
    go_wp2_with (first
      | ((with_reducible refine at_box (T := 79) (dst := some 4) ?_); refine wl_newb rfl #[.int .i64 st, .int .i64 pc, .slice sa sn sc, .slice ca cn cc, .int .u64 (wk : Nat), .int .i64 sk, .int .i64 er] 79 (fun _ => rfl) ?_; intro b4 w2 hm2; replace hv := hv.madeAt hm2; clear hm2)
      | ((with_reducible refine at_box (T := 36) (dst := some 5) ?_); refine wl_newb rfl (pg b q) 36 (fun _ => rfl) ?_; intro b5 w2 hm2; replace hv := hv.madeAt hm2; clear hm2)
      | (go_at_call 69; (with_reducible refine (kC _ (hv.rd (Mem.s (Mem.s Mem.z)))).mono ?_); rintro e w1 ⟨rfl, hn1⟩; replace hv := hv.new hn1; clear hn1)
      | (go_at_call 71; (with_reducible refine (heads30 _).mono ?_); rintro e w1 ⟨rfl, hn1⟩; replace hv := hv.new hn1; clear hn1))
    go_ret
    exact ⟨rfl, hv.below⟩
  · rw [show Cd.chk l = true from by simpa using h0] at kC0
    have kC : ∀ w', Rd w' 2 (.slice la ln lcap) (cellsI l) → Calls Try.prog 69 #[.slice la ln lcap] w' fun e w2 => e = .returned (.bool true) ∧ New w' w2 := kC0
    replace hbad : pc < 0 ∨ (ln : Int) ≤ pc ∨ 32 < sn ∨ 16 < cn := hbad.resolve_left h0
    clear kC0 h0
    by_cases h1 : sn ≤ 80 ∧ cn ≤ 80
    · have kS := small_yes st pc sk er wk sa ca sn sc cn cc h1.1 h1.2
      clear h1
      have hcase : pc < 0 ∨ (0 ≤ pc ∧ (ln : Int) ≤ pc) ∨ (0 ≤ pc ∧ pc < ln ∧ (32 : Int) < sn) ∨ (0 ≤ pc ∧ pc < ln ∧ (sn : Int) ≤ 32 ∧ (16 : Int) < cn) := by omega
      clear hbad
      rcases hcase with h1 | ⟨h1, h2⟩ | ⟨h1, h2, h3⟩ | ⟨h1, h2, h3, h4⟩
      · have g0 : decide (pc < 0) = true := decide_eq_true (by omega)
        clear h1
        go_enter Try.func16, Try.ntmps16
        go_wp2_with (first
          | ((with_reducible refine at_box (T := 79) (dst := some 4) ?_); refine wl_newb rfl #[.int .i64 st, .int .i64 pc, .slice sa sn sc, .slice ca cn cc, .int .u64 (wk : Nat), .int .i64 sk, .int .i64 er] 79 (fun _ => rfl) ?_; intro b4 w2 hm2; replace hv := hv.madeAt hm2; clear hm2)
          | ((with_reducible refine at_box (T := 36) (dst := some 5) ?_); refine wl_newb rfl (pg b q) 36 (fun _ => rfl) ?_; intro b5 w2 hm2; replace hv := hv.madeAt hm2; clear hm2)
          | (go_at_call 69; (with_reducible refine (kC _ (hv.rd (Mem.s (Mem.s Mem.z)))).mono ?_); rintro e w1 ⟨rfl, hn1⟩; replace hv := hv.new hn1; clear hn1)
          | ((with_reducible refine at_load (T := 79) ?_); refine wl_ldv rfl b4 rfl _ (hv.vars.row (by first | exact .head _ | exact .tail _ (.head _) | exact .tail _ (.tail _ (.head _)) | exact .tail _ (.tail _ (.tail _ (.head _))) | exact .tail _ (.tail _ (.tail _ (.tail _ (.head _)))) | exact .tail _ (.tail _ (.tail _ (.tail _ (.tail _ (.head _))))) | exact .tail _ (.tail _ (.tail _ (.tail _ (.tail _ (.tail _ (.head _)))))) | exact .tail _ (.tail _ (.tail _ (.tail _ (.tail _ (.tail _ (.tail _ (.head _))))))))) 7 _ Try.underlying79 rfl infoT (by decide) rfl ?_)
          | (go_at_call 72; (with_reducible refine (kS _).mono ?_); rintro e w1 ⟨rfl, hn1⟩; replace hv := hv.new hn1; clear hn1)
          | ((with_reducible refine at_load (T := 29) ?_); refine wl_ldc rfl _ _ rfl _ (hv.vars.row (by first | exact .head _ | exact .tail _ (.head _) | exact .tail _ (.tail _ (.head _)) | exact .tail _ (.tail _ (.tail _ (.head _))) | exact .tail _ (.tail _ (.tail _ (.tail _ (.head _)))) | exact .tail _ (.tail _ (.tail _ (.tail _ (.tail _ (.head _))))) | exact .tail _ (.tail _ (.tail _ (.tail _ (.tail _ (.tail _ (.head _)))))) | exact .tail _ (.tail _ (.tail _ (.tail _ (.tail _ (.tail _ (.tail _ (.head _))))))))) _ Try.underlying29 rfl _ rfl ?_)
          | ((with_reducible refine at_load (T := 32) ?_); refine wl_ldc rfl _ _ rfl _ (hv.vars.row (by first | exact .head _ | exact .tail _ (.head _) | exact .tail _ (.tail _ (.head _)) | exact .tail _ (.tail _ (.tail _ (.head _))) | exact .tail _ (.tail _ (.tail _ (.tail _ (.head _)))) | exact .tail _ (.tail _ (.tail _ (.tail _ (.tail _ (.head _))))) | exact .tail _ (.tail _ (.tail _ (.tail _ (.tail _ (.tail _ (.head _)))))) | exact .tail _ (.tail _ (.tail _ (.tail _ (.tail _ (.tail _ (.tail _ (.head _))))))))) _ Try.underlying32 rfl _ rfl ?_)
          | ((with_reducible refine at_load (T := 3) ?_); refine wl_ldc rfl _ _ rfl _ (hv.vars.row (by first | exact .head _ | exact .tail _ (.head _) | exact .tail _ (.tail _ (.head _)) | exact .tail _ (.tail _ (.tail _ (.head _))) | exact .tail _ (.tail _ (.tail _ (.tail _ (.head _)))) | exact .tail _ (.tail _ (.tail _ (.tail _ (.tail _ (.head _))))) | exact .tail _ (.tail _ (.tail _ (.tail _ (.tail _ (.tail _ (.head _)))))) | exact .tail _ (.tail _ (.tail _ (.tail _ (.tail _ (.tail _ (.tail _ (.head _))))))))) _ Try.underlying3 rfl _ rfl ?_)
          | (go_at_call 71; (with_reducible refine (heads30 _).mono ?_); rintro e w1 ⟨rfl, hn1⟩; replace hv := hv.new hn1; clear hn1))
        go_ret
        exact ⟨rfl, hv.below⟩
      · have g0 : decide (pc < 0) = false := decide_eq_false (by omega)
        have g1 : decide ((ln : Int) ≤ pc) = true := decide_eq_true (by omega)
        clear h1 h2
        go_enter Try.func16, Try.ntmps16
        go_wp2_with (first
          | ((with_reducible refine at_box (T := 79) (dst := some 4) ?_); refine wl_newb rfl #[.int .i64 st, .int .i64 pc, .slice sa sn sc, .slice ca cn cc, .int .u64 (wk : Nat), .int .i64 sk, .int .i64 er] 79 (fun _ => rfl) ?_; intro b4 w2 hm2; replace hv := hv.madeAt hm2; clear hm2)
          | ((with_reducible refine at_box (T := 36) (dst := some 5) ?_); refine wl_newb rfl (pg b q) 36 (fun _ => rfl) ?_; intro b5 w2 hm2; replace hv := hv.madeAt hm2; clear hm2)
          | (go_at_call 69; (with_reducible refine (kC _ (hv.rd (Mem.s (Mem.s Mem.z)))).mono ?_); rintro e w1 ⟨rfl, hn1⟩; replace hv := hv.new hn1; clear hn1)
          | ((with_reducible refine at_load (T := 79) ?_); refine wl_ldv rfl b4 rfl _ (hv.vars.row (by first | exact .head _ | exact .tail _ (.head _) | exact .tail _ (.tail _ (.head _)) | exact .tail _ (.tail _ (.tail _ (.head _))) | exact .tail _ (.tail _ (.tail _ (.tail _ (.head _)))) | exact .tail _ (.tail _ (.tail _ (.tail _ (.tail _ (.head _))))) | exact .tail _ (.tail _ (.tail _ (.tail _ (.tail _ (.tail _ (.head _)))))) | exact .tail _ (.tail _ (.tail _ (.tail _ (.tail _ (.tail _ (.tail _ (.head _))))))))) 7 _ Try.underlying79 rfl infoT (by decide) rfl ?_)
          | (go_at_call 72; (with_reducible refine (kS _).mono ?_); rintro e w1 ⟨rfl, hn1⟩; replace hv := hv.new hn1; clear hn1)
          | ((with_reducible refine at_load (T := 29) ?_); refine wl_ldc rfl _ _ rfl _ (hv.vars.row (by first | exact .head _ | exact .tail _ (.head _) | exact .tail _ (.tail _ (.head _)) | exact .tail _ (.tail _ (.tail _ (.head _))) | exact .tail _ (.tail _ (.tail _ (.tail _ (.head _)))) | exact .tail _ (.tail _ (.tail _ (.tail _ (.tail _ (.head _))))) | exact .tail _ (.tail _ (.tail _ (.tail _ (.tail _ (.tail _ (.head _)))))) | exact .tail _ (.tail _ (.tail _ (.tail _ (.tail _ (.tail _ (.tail _ (.head _))))))))) _ Try.underlying29 rfl _ rfl ?_)
          | ((with_reducible refine at_load (T := 32) ?_); refine wl_ldc rfl _ _ rfl _ (hv.vars.row (by first | exact .head _ | exact .tail _ (.head _) | exact .tail _ (.tail _ (.head _)) | exact .tail _ (.tail _ (.tail _ (.head _))) | exact .tail _ (.tail _ (.tail _ (.tail _ (.head _)))) | exact .tail _ (.tail _ (.tail _ (.tail _ (.tail _ (.head _))))) | exact .tail _ (.tail _ (.tail _ (.tail _ (.tail _ (.tail _ (.head _)))))) | exact .tail _ (.tail _ (.tail _ (.tail _ (.tail _ (.tail _ (.tail _ (.head _))))))))) _ Try.underlying32 rfl _ rfl ?_)
          | ((with_reducible refine at_load (T := 3) ?_); refine wl_ldc rfl _ _ rfl _ (hv.vars.row (by first | exact .head _ | exact .tail _ (.head _) | exact .tail _ (.tail _ (.head _)) | exact .tail _ (.tail _ (.tail _ (.head _))) | exact .tail _ (.tail _ (.tail _ (.tail _ (.head _)))) | exact .tail _ (.tail _ (.tail _ (.tail _ (.tail _ (.head _))))) | exact .tail _ (.tail _ (.tail _ (.tail _ (.tail _ (.tail _ (.head _)))))) | exact .tail _ (.tail _ (.tail _ (.tail _ (.tail _ (.tail _ (.tail _ (.head _))))))))) _ Try.underlying3 rfl _ rfl ?_)
          | (go_at_call 71; (with_reducible refine (heads30 _).mono ?_); rintro e w1 ⟨rfl, hn1⟩; replace hv := hv.new hn1; clear hn1))
        go_ret
        exact ⟨rfl, hv.below⟩
      · have g0 : decide (pc < 0) = false := decide_eq_false (by omega)
        have g1 : decide ((ln : Int) ≤ pc) = false := decide_eq_false (by omega)
        have g2 : decide ((32 : Int) < (sn : Int)) = true := decide_eq_true (by omega)
        clear h1 h2 h3
        go_enter Try.func16, Try.ntmps16
        go_wp2_with (first
          | ((with_reducible refine at_box (T := 79) (dst := some 4) ?_); refine wl_newb rfl #[.int .i64 st, .int .i64 pc, .slice sa sn sc, .slice ca cn cc, .int .u64 (wk : Nat), .int .i64 sk, .int .i64 er] 79 (fun _ => rfl) ?_; intro b4 w2 hm2; replace hv := hv.madeAt hm2; clear hm2)
          | ((with_reducible refine at_box (T := 36) (dst := some 5) ?_); refine wl_newb rfl (pg b q) 36 (fun _ => rfl) ?_; intro b5 w2 hm2; replace hv := hv.madeAt hm2; clear hm2)
          | (go_at_call 69; (with_reducible refine (kC _ (hv.rd (Mem.s (Mem.s Mem.z)))).mono ?_); rintro e w1 ⟨rfl, hn1⟩; replace hv := hv.new hn1; clear hn1)
          | ((with_reducible refine at_load (T := 79) ?_); refine wl_ldv rfl b4 rfl _ (hv.vars.row (by first | exact .head _ | exact .tail _ (.head _) | exact .tail _ (.tail _ (.head _)) | exact .tail _ (.tail _ (.tail _ (.head _))) | exact .tail _ (.tail _ (.tail _ (.tail _ (.head _)))) | exact .tail _ (.tail _ (.tail _ (.tail _ (.tail _ (.head _))))) | exact .tail _ (.tail _ (.tail _ (.tail _ (.tail _ (.tail _ (.head _)))))) | exact .tail _ (.tail _ (.tail _ (.tail _ (.tail _ (.tail _ (.tail _ (.head _))))))))) 7 _ Try.underlying79 rfl infoT (by decide) rfl ?_)
          | (go_at_call 72; (with_reducible refine (kS _).mono ?_); rintro e w1 ⟨rfl, hn1⟩; replace hv := hv.new hn1; clear hn1)
          | ((with_reducible refine at_load (T := 29) ?_); refine wl_ldc rfl _ _ rfl _ (hv.vars.row (by first | exact .head _ | exact .tail _ (.head _) | exact .tail _ (.tail _ (.head _)) | exact .tail _ (.tail _ (.tail _ (.head _))) | exact .tail _ (.tail _ (.tail _ (.tail _ (.head _)))) | exact .tail _ (.tail _ (.tail _ (.tail _ (.tail _ (.head _))))) | exact .tail _ (.tail _ (.tail _ (.tail _ (.tail _ (.tail _ (.head _)))))) | exact .tail _ (.tail _ (.tail _ (.tail _ (.tail _ (.tail _ (.tail _ (.head _))))))))) _ Try.underlying29 rfl _ rfl ?_)
          | ((with_reducible refine at_load (T := 32) ?_); refine wl_ldc rfl _ _ rfl _ (hv.vars.row (by first | exact .head _ | exact .tail _ (.head _) | exact .tail _ (.tail _ (.head _)) | exact .tail _ (.tail _ (.tail _ (.head _))) | exact .tail _ (.tail _ (.tail _ (.tail _ (.head _)))) | exact .tail _ (.tail _ (.tail _ (.tail _ (.tail _ (.head _))))) | exact .tail _ (.tail _ (.tail _ (.tail _ (.tail _ (.tail _ (.head _)))))) | exact .tail _ (.tail _ (.tail _ (.tail _ (.tail _ (.tail _ (.tail _ (.head _))))))))) _ Try.underlying32 rfl _ rfl ?_)
          | ((with_reducible refine at_load (T := 3) ?_); refine wl_ldc rfl _ _ rfl _ (hv.vars.row (by first | exact .head _ | exact .tail _ (.head _) | exact .tail _ (.tail _ (.head _)) | exact .tail _ (.tail _ (.tail _ (.head _))) | exact .tail _ (.tail _ (.tail _ (.tail _ (.head _)))) | exact .tail _ (.tail _ (.tail _ (.tail _ (.tail _ (.head _))))) | exact .tail _ (.tail _ (.tail _ (.tail _ (.tail _ (.tail _ (.head _)))))) | exact .tail _ (.tail _ (.tail _ (.tail _ (.tail _ (.tail _ (.tail _ (.head _))))))))) _ Try.underlying3 rfl _ rfl ?_)
          | (go_at_call 71; (with_reducible refine (heads30 _).mono ?_); rintro e w1 ⟨rfl, hn1⟩; replace hv := hv.new hn1; clear hn1))
        go_ret
        exact ⟨rfl, hv.below⟩
      · have g0 : decide (pc < 0) = false := decide_eq_false (by omega)
        have g1 : decide ((ln : Int) ≤ pc) = false := decide_eq_false (by omega)
        have g2 : decide ((32 : Int) < (sn : Int)) = false := decide_eq_false (by omega)
        have g3 : decide ((16 : Int) < (cn : Int)) = true := decide_eq_true (by omega)
        clear h1 h2 h3 h4
        go_enter Try.func16, Try.ntmps16
        go_wp2_with (first
          | ((with_reducible refine at_box (T := 79) (dst := some 4) ?_); refine wl_newb rfl #[.int .i64 st, .int .i64 pc, .slice sa sn sc, .slice ca cn cc, .int .u64 (wk : Nat), .int .i64 sk, .int .i64 er] 79 (fun _ => rfl) ?_; intro b4 w2 hm2; replace hv := hv.madeAt hm2; clear hm2)
          | ((with_reducible refine at_box (T := 36) (dst := some 5) ?_); refine wl_newb rfl (pg b q) 36 (fun _ => rfl) ?_; intro b5 w2 hm2; replace hv := hv.madeAt hm2; clear hm2)
          | (go_at_call 69; (with_reducible refine (kC _ (hv.rd (Mem.s (Mem.s Mem.z)))).mono ?_); rintro e w1 ⟨rfl, hn1⟩; replace hv := hv.new hn1; clear hn1)
          | ((with_reducible refine at_load (T := 79) ?_); refine wl_ldv rfl b4 rfl _ (hv.vars.row (by first | exact .head _ | exact .tail _ (.head _) | exact .tail _ (.tail _ (.head _)) | exact .tail _ (.tail _ (.tail _ (.head _))) | exact .tail _ (.tail _ (.tail _ (.tail _ (.head _)))) | exact .tail _ (.tail _ (.tail _ (.tail _ (.tail _ (.head _))))) | exact .tail _ (.tail _ (.tail _ (.tail _ (.tail _ (.tail _ (.head _)))))) | exact .tail _ (.tail _ (.tail _ (.tail _ (.tail _ (.tail _ (.tail _ (.head _))))))))) 7 _ Try.underlying79 rfl infoT (by decide) rfl ?_)
          | (go_at_call 72; (with_reducible refine (kS _).mono ?_); rintro e w1 ⟨rfl, hn1⟩; replace hv := hv.new hn1; clear hn1)
          | ((with_reducible refine at_load (T := 29) ?_); refine wl_ldc rfl _ _ rfl _ (hv.vars.row (by first | exact .head _ | exact .tail _ (.head _) | exact .tail _ (.tail _ (.head _)) | exact .tail _ (.tail _ (.tail _ (.head _))) | exact .tail _ (.tail _ (.tail _ (.tail _ (.head _)))) | exact .tail _ (.tail _ (.tail _ (.tail _ (.tail _ (.head _))))) | exact .tail _ (.tail _ (.tail _ (.tail _ (.tail _ (.tail _ (.head _)))))) | exact .tail _ (.tail _ (.tail _ (.tail _ (.tail _ (.tail _ (.tail _ (.head _))))))))) _ Try.underlying29 rfl _ rfl ?_)
          | ((with_reducible refine at_load (T := 32) ?_); refine wl_ldc rfl _ _ rfl _ (hv.vars.row (by first | exact .head _ | exact .tail _ (.head _) | exact .tail _ (.tail _ (.head _)) | exact .tail _ (.tail _ (.tail _ (.head _))) | exact .tail _ (.tail _ (.tail _ (.tail _ (.head _)))) | exact .tail _ (.tail _ (.tail _ (.tail _ (.tail _ (.head _))))) | exact .tail _ (.tail _ (.tail _ (.tail _ (.tail _ (.tail _ (.head _)))))) | exact .tail _ (.tail _ (.tail _ (.tail _ (.tail _ (.tail _ (.tail _ (.head _))))))))) _ Try.underlying32 rfl _ rfl ?_)
          | ((with_reducible refine at_load (T := 3) ?_); refine wl_ldc rfl _ _ rfl _ (hv.vars.row (by first | exact .head _ | exact .tail _ (.head _) | exact .tail _ (.tail _ (.head _)) | exact .tail _ (.tail _ (.tail _ (.head _))) | exact .tail _ (.tail _ (.tail _ (.tail _ (.head _)))) | exact .tail _ (.tail _ (.tail _ (.tail _ (.tail _ (.head _))))) | exact .tail _ (.tail _ (.tail _ (.tail _ (.tail _ (.tail _ (.head _)))))) | exact .tail _ (.tail _ (.tail _ (.tail _ (.tail _ (.tail _ (.tail _ (.head _))))))))) _ Try.underlying3 rfl _ rfl ?_)
          | (go_at_call 71; (with_reducible refine (heads30 _).mono ?_); rintro e w1 ⟨rfl, hn1⟩; replace hv := hv.new hn1; clear hn1))
        go_ret
        exact ⟨rfl, hv.below⟩
    · have kS : ∀ w, Calls Try.prog 72 #[.agg #[.int .i64 st, .int .i64 pc, .slice sa sn sc, .slice ca cn cc, .int .u64 (wk : Nat), .int .i64 sk, .int .i64 er]] w fun e w' => e = .returned (.bool false) ∧ New w w' := fun w => by
        by_cases h2 : sn ≤ 80
        · exact small_no2 st pc sk er wk sa ca sn sc cn cc h2 (by omega) w
        · exact small_no1 st pc sk er wk sa ca sn sc cn cc (by omega) w
      clear h1 hbad
      go_enter Try.func16, Try.ntmps16
      go_wp2_with (first
        | ((with_reducible refine at_box (T := 79) (dst := some 4) ?_); refine wl_newb rfl #[.int .i64 st, .int .i64 pc, .slice sa sn sc, .slice ca cn cc, .int .u64 (wk : Nat), .int .i64 sk, .int .i64 er] 79 (fun _ => rfl) ?_; intro b4 w2 hm2; replace hv := hv.madeAt hm2; clear hm2)
        | ((with_reducible refine at_box (T := 36) (dst := some 5) ?_); refine wl_newb rfl (pg b q) 36 (fun _ => rfl) ?_; intro b5 w2 hm2; replace hv := hv.madeAt hm2; clear hm2)
        | (go_at_call 69; (with_reducible refine (kC _ (hv.rd (Mem.s (Mem.s Mem.z)))).mono ?_); rintro e w1 ⟨rfl, hn1⟩; replace hv := hv.new hn1; clear hn1)
        | ((with_reducible refine at_load (T := 79) ?_); refine wl_ldv rfl b4 rfl _ (hv.vars.row (by first | exact .head _ | exact .tail _ (.head _) | exact .tail _ (.tail _ (.head _)) | exact .tail _ (.tail _ (.tail _ (.head _))) | exact .tail _ (.tail _ (.tail _ (.tail _ (.head _)))) | exact .tail _ (.tail _ (.tail _ (.tail _ (.tail _ (.head _))))) | exact .tail _ (.tail _ (.tail _ (.tail _ (.tail _ (.tail _ (.head _)))))) | exact .tail _ (.tail _ (.tail _ (.tail _ (.tail _ (.tail _ (.tail _ (.head _))))))))) 7 _ Try.underlying79 rfl infoT (by decide) rfl ?_)
        | (go_at_call 72; (with_reducible refine (kS _).mono ?_); rintro e w1 ⟨rfl, hn1⟩; replace hv := hv.new hn1; clear hn1)
        | (go_at_call 71; (with_reducible refine (heads30 _).mono ?_); rintro e w1 ⟨rfl, hn1⟩; replace hv := hv.new hn1; clear hn1))
      go_ret
      exact ⟨rfl, hv.below⟩
set_option maxRecDepth 100000 in
set_option maxHeartbeats 8000000 in
theorem Inside_in (st pc sk er : Int) (wk : Nat) (sa ca : Option Addr) (sn sc cn cc : Nat) (S : List Nat) (C : List Int) (la : Option Addr) (ln lcap : Nat) (l : List Cd.Inst) (b : Nat → Bool) (q : Nat → Nat → Nat) (wl : World) (hl : Rd wl 2 (.slice la ln lcap) (cellsI l)) (hg : ∀ x ∈ l, goodI x) (hs : Rd wl 1 (.slice sa sn sc) (cellsU S)) (hc : Rd wl 1 (.slice ca cn cc) (cellsN C)) (hu : GoodS S) (hq : GoodQ q)
    (hck : Cd.chk l = true) (h1 : 0 ≤ pc) (h2 : pc < (ln : Int)) (h3 : sn ≤ 32) (h4 : cn ≤ 16) : Calls Try.prog 16 #[.slice la ln lcap, .agg #[.int .i64 st, .int .i64 pc, .slice sa sn sc, .slice ca cn cc, .int .u64 (wk : Nat), .int .i64 sk, .int .i64 er], .agg (pg b q)] wl fun e w' => e = .returned (.bool true) ∧ New wl w' := by
  have kC : ∀ w', Rd w' 2 (.slice la ln lcap) (cellsI l) → Calls Try.prog 69 #[.slice la ln lcap] w' fun e w2 => e = .returned (.bool true) ∧ New w' w2 := fun w' h => by
    have := RCheck_any (.slice la ln lcap) l w' h hg
    rwa [hck] at this
  have he36 : ∀ (w : World) (b : Nat → Bool) (q : Nat → Nat → Nat), (Op.equalIn 10000 36 (.agg (pg b q)) (.agg (pg b q))).run Try.prog w = .ok true w := fun w b q => by rw [equalIn_pgM, samePg_self]
  have kS := small_yes st pc sk er wk sa ca sn sc cn cc (by omega) (by omega)
  have hln : l.length = ln := by
    obtain ⟨_, _, _, e, g, _⟩ := hl
    cases e
    rw [len_cellsI] at g; omega
  have hsn : S.length = sn := by
    obtain ⟨_, _, _, e, g, _⟩ := hs
    cases e
    rw [cellsU_len] at g; omega
  have hcn : C.length = cn := by
    obtain ⟨_, _, _, e, g, _⟩ := hc
    cases e
    rw [cellsN_len] at g; omega
  have hn128 : l.length ≤ 128 := by
    have := hck; unfold Cd.chk at this; simp only [Bool.and_eq_true, decide_eq_true_eq] at this; omega
  have HLN := Lib.hid hln
  have HSN := Lib.hid hsn
  have HCN := Lib.hid hcn
  have HN := Lib.hid hn128
  have HG := Lib.hid hg
  have HCK := Lib.hid hck
  have HGS := Lib.hid (And.intro hu hq)
  have HPC : Hid (0 ≤ pc ∧ pc < (ln : Int) ∧ sn ≤ 32 ∧ cn ≤ 16) := Lib.hid ⟨h1, h2, h3, h4⟩
  have hv := (((Mem.nil wl).old hl).old hc).old hs
  have g0 : decide (pc < 0) = false := decide_eq_false (by omega)
  have g1 : decide ((ln : Int) ≤ pc) = false := decide_eq_false (by omega)
  have g2 : decide ((32 : Int) < (sn : Int)) = false := decide_eq_false (by omega)
  have g3 : decide ((16 : Int) < (cn : Int)) = false := decide_eq_false (by omega)
  have hcm : (cn : Int) ≤ 16 := by omega
  clear hl hc hs hg hu hq hck h1 h2 h3 h4 hln hsn hcn hn128
  go_enter Try.func16, Try.ntmps16
  go_wp2_with (first
    | ((with_reducible refine at_box (T := 79) (dst := some 4) ?_); refine wl_newb rfl #[.int .i64 st, .int .i64 pc, .slice sa sn sc, .slice ca cn cc, .int .u64 (wk : Nat), .int .i64 sk, .int .i64 er] 79 (fun _ => rfl) ?_; intro b4 w2 hm2; replace hv := hv.madeAt hm2; clear hm2)
    | ((with_reducible refine at_box (T := 36) (dst := some 5) ?_); refine wl_newb rfl (pg b q) 36 (fun _ => rfl) ?_; intro b5 w2 hm2; replace hv := hv.madeAt hm2; clear hm2)
    | (go_at_call 69; (with_reducible refine (kC _ (hv.rd (Mem.s (Mem.s Mem.z)))).mono ?_); rintro e w1 ⟨rfl, hn1⟩; replace hv := hv.new hn1; clear hn1)
    | ((with_reducible refine at_load (T := 79) ?_); refine wl_ldv rfl b4 rfl _ (hv.vars.row (by first | exact .head _ | exact .tail _ (.head _) | exact .tail _ (.tail _ (.head _)) | exact .tail _ (.tail _ (.tail _ (.head _))) | exact .tail _ (.tail _ (.tail _ (.tail _ (.head _)))) | exact .tail _ (.tail _ (.tail _ (.tail _ (.tail _ (.head _))))) | exact .tail _ (.tail _ (.tail _ (.tail _ (.tail _ (.tail _ (.head _)))))) | exact .tail _ (.tail _ (.tail _ (.tail _ (.tail _ (.tail _ (.tail _ (.head _))))))))) 7 _ Try.underlying79 rfl infoT (by decide) rfl ?_)
    | (go_at_call 72; (with_reducible refine (kS _).mono ?_); rintro e w1 ⟨rfl, hn1⟩; replace hv := hv.new hn1; clear hn1)
    | ((with_reducible refine at_load (T := 29) ?_); refine wl_ldc rfl _ _ rfl _ (hv.vars.row (by first | exact .head _ | exact .tail _ (.head _) | exact .tail _ (.tail _ (.head _)) | exact .tail _ (.tail _ (.tail _ (.head _))) | exact .tail _ (.tail _ (.tail _ (.tail _ (.head _)))) | exact .tail _ (.tail _ (.tail _ (.tail _ (.tail _ (.head _))))) | exact .tail _ (.tail _ (.tail _ (.tail _ (.tail _ (.tail _ (.head _)))))) | exact .tail _ (.tail _ (.tail _ (.tail _ (.tail _ (.tail _ (.tail _ (.head _))))))))) _ Try.underlying29 rfl _ rfl ?_)
    | ((with_reducible refine at_load (T := 32) ?_); refine wl_ldc rfl _ _ rfl _ (hv.vars.row (by first | exact .head _ | exact .tail _ (.head _) | exact .tail _ (.tail _ (.head _)) | exact .tail _ (.tail _ (.tail _ (.head _))) | exact .tail _ (.tail _ (.tail _ (.tail _ (.head _)))) | exact .tail _ (.tail _ (.tail _ (.tail _ (.tail _ (.head _))))) | exact .tail _ (.tail _ (.tail _ (.tail _ (.tail _ (.tail _ (.head _)))))) | exact .tail _ (.tail _ (.tail _ (.tail _ (.tail _ (.tail _ (.tail _ (.head _))))))))) _ Try.underlying32 rfl _ rfl ?_)
    | ((with_reducible refine at_load (T := 3) ?_); refine wl_ldc rfl _ _ rfl _ (hv.vars.row (by first | exact .head _ | exact .tail _ (.head _) | exact .tail _ (.tail _ (.head _)) | exact .tail _ (.tail _ (.tail _ (.head _))) | exact .tail _ (.tail _ (.tail _ (.tail _ (.head _)))) | exact .tail _ (.tail _ (.tail _ (.tail _ (.tail _ (.head _))))) | exact .tail _ (.tail _ (.tail _ (.tail _ (.tail _ (.tail _ (.head _)))))) | exact .tail _ (.tail _ (.tail _ (.tail _ (.tail _ (.tail _ (.tail _ (.head _))))))))) _ Try.underlying3 rfl _ rfl ?_))
  clear kC kS g0 g1 g2 g3
  go_loopw [7] (fun i wr => ∃ k : Nat, k ≤ cn ∧ i = .int .i64 (k : Nat) ∧ Hid (∀ j (h : j < C.length), j < k → 0 ≤ C[j] ∧ C[j] < (ln : Int)) ∧ Mem wl wr [(b5, pg b q), (b4, #[.int .i64 st, .int .i64 pc, .slice sa sn sc, .slice ca cn cc, .int .u64 (wk : Nat), .int .i64 sk, .int .i64 er])] [(1, .slice sa sn sc, cellsU S), (1, .slice ca cn cc, cellsN C), (2, .slice la ln lcap, cellsI l)]) (fun i _ => cn - (intOf i).toNat)
  case atStart => exact ⟨0, by omega, rfl, Lib.hid fun j h hj => by omega, hv⟩
  case round =>
    clear hv
    obtain ⟨k, hk, rfl, hall, hv⟩ := hrel
    by_cases hk2 : k < cn
    · have hki : (k : Int) < (cn : Int) := by omega
      have hkl : k < C.length := by rw [HCN.out]; exact hk2
      obtain ⟨x, hx⟩ : ∃ x, C[k] = x := ⟨_, rfl⟩
      have HXK : Hid ((cellsN C)[k]? = some (.int .i64 x)) := Lib.hid (by simp [cellsN, List.getElem?_eq_getElem hkl, hx])
      obtain ⟨cb, co, _, _, e, e9⟩ := (hv.rd (Mem.s Mem.z)).some (by rw [cellsN_len]; omega)
      cases e
      clear e9
      have HX := Lib.hid hx
      clear hx
      by_cases hx0 : x < 0
      · have q0 : decide (x < 0) = true := decide_eq_true hx0
        clear hx0
        go_wp2_with (first
          | ((with_reducible refine at_load (T := 3) ?_); refine wl_rd rfl (hv.rd (Mem.s Mem.z)) k rfl _ Try.underlying3 rfl (.int .i64 x) HXK.out ?_)
          | ((with_reducible refine at_load (T := 32) ?_); refine wl_ldc rfl _ _ rfl _ (hv.vars.row (by first | exact .head _ | exact .tail _ (.head _) | exact .tail _ (.tail _ (.head _)) | exact .tail _ (.tail _ (.tail _ (.head _))) | exact .tail _ (.tail _ (.tail _ (.tail _ (.head _)))) | exact .tail _ (.tail _ (.tail _ (.tail _ (.tail _ (.head _))))) | exact .tail _ (.tail _ (.tail _ (.tail _ (.tail _ (.tail _ (.head _)))))) | exact .tail _ (.tail _ (.tail _ (.tail _ (.tail _ (.tail _ (.tail _ (.head _))))))))) _ Try.underlying32 rfl _ rfl ?_)
          | (go_at_call 71; (with_reducible refine (heads30 _).mono ?_); rintro e w1 ⟨rfl, hn1⟩; replace hv := hv.new hn1; clear hn1))
        go_ret
        exact ⟨rfl, hv.below⟩
      · have q0 : decide (x < 0) = false := decide_eq_false hx0
        by_cases hx1 : (ln : Int) ≤ x
        · have q1 : decide ((ln : Int) ≤ x) = true := decide_eq_true hx1
          clear hx0 hx1
          go_wp2_with (first
            | ((with_reducible refine at_load (T := 3) ?_); refine wl_rd rfl (hv.rd (Mem.s Mem.z)) k rfl _ Try.underlying3 rfl (.int .i64 x) HXK.out ?_)
            | ((with_reducible refine at_load (T := 32) ?_); refine wl_ldc rfl _ _ rfl _ (hv.vars.row (by first | exact .head _ | exact .tail _ (.head _) | exact .tail _ (.tail _ (.head _)) | exact .tail _ (.tail _ (.tail _ (.head _))) | exact .tail _ (.tail _ (.tail _ (.tail _ (.head _)))) | exact .tail _ (.tail _ (.tail _ (.tail _ (.tail _ (.head _))))) | exact .tail _ (.tail _ (.tail _ (.tail _ (.tail _ (.tail _ (.head _)))))) | exact .tail _ (.tail _ (.tail _ (.tail _ (.tail _ (.tail _ (.tail _ (.head _))))))))) _ Try.underlying32 rfl _ rfl ?_)
            | (go_at_call 71; (with_reducible refine (heads30 _).mono ?_); rintro e w1 ⟨rfl, hn1⟩; replace hv := hv.new hn1; clear hn1))
          go_ret
          exact ⟨rfl, hv.below⟩
        · have q1 : decide ((ln : Int) ≤ x) = false := decide_eq_false hx1
          have HB : Hid (0 ≤ x ∧ x < (ln : Int)) := Lib.hid ⟨by omega, by omega⟩
          clear hx0 hx1
          go_wp2_with (first
            | ((with_reducible refine at_load (T := 3) ?_); refine wl_rd rfl (hv.rd (Mem.s Mem.z)) k rfl _ Try.underlying3 rfl (.int .i64 x) HXK.out ?_)
            | ((with_reducible refine at_load (T := 32) ?_); refine wl_ldc rfl _ _ rfl _ (hv.vars.row (by first | exact .head _ | exact .tail _ (.head _) | exact .tail _ (.tail _ (.head _)) | exact .tail _ (.tail _ (.tail _ (.head _))) | exact .tail _ (.tail _ (.tail _ (.tail _ (.head _)))) | exact .tail _ (.tail _ (.tail _ (.tail _ (.tail _ (.head _))))) | exact .tail _ (.tail _ (.tail _ (.tail _ (.tail _ (.tail _ (.head _)))))) | exact .tail _ (.tail _ (.tail _ (.tail _ (.tail _ (.tail _ (.tail _ (.head _))))))))) _ Try.underlying32 rfl _ rfl ?_))
          go_roundw
          case rel => exact ⟨k + 1, by omega, by go_num, Lib.hid fun j h hj => by rcases Nat.lt_or_ge j k with g | g; exact hall.out j h g; (have e : j = k := by omega); subst e; rw [HX.out]; exact HB.out, hv⟩
          case measure => simp [intOf]; omega
    · have hki : ¬ (k : Int) < (cn : Int) := by omega
      have HI : Hid (Inn l ⟨st, pc, S, C, wk, sk, er⟩) := Lib.hid ⟨HPC.out.1, by rw [HLN.out]; exact HPC.out.2.1, by show S.length ≤ 32; rw [HSN.out]; exact HPC.out.2.2.1, by show C.length ≤ 16; rw [HCN.out]; exact HPC.out.2.2.2, fun c hc => by
        obtain ⟨j, hj, rfl⟩ := List.mem_iff_getElem.1 hc
        rw [HLN.out]
        exact hall.out j hj (by rw [HCN.out] at hj; omega)⟩
      go_wp2_with (first
        | ((with_reducible refine at_load (T := 32) ?_); refine wl_ldc rfl _ _ rfl _ (hv.vars.row (by first | exact .head _ | exact .tail _ (.head _) | exact .tail _ (.tail _ (.head _)) | exact .tail _ (.tail _ (.tail _ (.head _))) | exact .tail _ (.tail _ (.tail _ (.tail _ (.head _)))) | exact .tail _ (.tail _ (.tail _ (.tail _ (.tail _ (.head _))))) | exact .tail _ (.tail _ (.tail _ (.tail _ (.tail _ (.tail _ (.head _)))))) | exact .tail _ (.tail _ (.tail _ (.tail _ (.tail _ (.tail _ (.tail _ (.head _))))))))) _ Try.underlying32 rfl _ rfl ?_))
      go_loopw [8] (fun i wr => ∃ (k : Nat) (st pc sk er : Int) (wk : Nat) (S : List Nat) (C : List Int) (q : Nat → Nat → Nat) (sa ca : Option Addr) (sn sc cn cc : Nat), k ≤ 60 ∧ i = .int .i64 (k : Nat) ∧ Hid (Inn l ⟨st, pc, S, C, wk, sk, er⟩ ∧ GoodS S ∧ GoodQ q ∧ S.length = sn ∧ C.length = cn) ∧ Mem wl wr [(b5, pg b q), (b4, #[.int .i64 st, .int .i64 pc, .slice sa sn sc, .slice ca cn cc, .int .u64 (wk : Nat), .int .i64 sk, .int .i64 er])] [(1, .slice sa sn sc, cellsU S), (1, .slice ca cn cc, cellsN C), (2, .slice la ln lcap, cellsI l)]) (fun i _ => 60 - (intOf i).toNat)
      case atStart => exact ⟨0, st, pc, sk, er, wk, S, C, q, sa, ca, sn, sc, cn, cc, by omega, rfl, Lib.hid ⟨HI.out, HGS.out.1, HGS.out.2, HSN.out, HCN.out⟩, hv⟩
      case round =>
        clear hv
        clear hall HI HPC HGS HCN HSN hcm hki hk2 hk
        obtain ⟨k, st, pc, sk, er, wk, S, C, q, sa, ca, sn, sc, cn, cc, hk, rfl, hgd, hv⟩ := hrel
        by_cases hk2 : k < 60
        · have hki : (k : Int) < 60 := by omega
          have hgd2 := doF_good (b := b) (t := ⟨st, pc, S, C, wk, sk, er⟩) HG.out hgd.out.2.1 hgd.out.2.2.1
          have kDo0 := fun w' L' R' h1 h2 h3 h4 => Do_any st pc sk er wk S C (.slice sa sn sc) (.slice ca cn cc) (.slice la ln lcap) l b q wl w' L' R' h1 h2 HG.out h3 h4 hgd.out.2.1
          by_cases he : (doF l ⟨st, pc, S, C, wk, sk, er⟩ b q).2.2 = 0
          · have hin := doF_inn (b := b) (q := q) HCK.out hgd.out.1 he
            generalize doF l ⟨st, pc, S, C, wk, sk, er⟩ b q = r at *
            obtain ⟨⟨st', pc', S', C', wk', sk', er'⟩, q', e'⟩ := r
            simp only at he hin hgd2
            subst he
            obtain ⟨hin1, hin2⟩ := hin
            obtain ⟨p, rfl⟩ : ∃ p : Nat, pc = (p : Int) := ⟨pc.toNat, by have := hgd.out.1.lo; simp only at this; omega⟩
            have hp : p < l.length := by have := hgd.out.1.hi; simp only at this; omega
            obtain ⟨op, arg, hx⟩ : ∃ op arg, l[p] = (op, arg) := ⟨_, _, rfl⟩
            have hgd3 : l.getD (p : Int).toNat (1, 0) = (op, arg) := by rw [Int.toNat_natCast, List.getD_eq_getElem?_getD, List.getElem?_eq_getElem hp, hx]; rfl
            rw [hgd3] at hin2
            have HOP : Hid ((cellsI l)[p * 2]? = some (.int .i64 op)) := Lib.hid (by rw [get_op l hp, hx])
            have kA0 := fun w => RArgs_any op w
            obtain ⟨ai, hai⟩ : ∃ ai, (argsP op).1 = ai := ⟨_, rfl⟩
            obtain ⟨ao, hao⟩ : ∃ ao, (argsP op).2 = ao := ⟨_, rfl⟩
            have hb1 : 0 ≤ ai ∧ ai ≤ 2 ∧ 0 ≤ ao ∧ ao ≤ 2 := by
              obtain ⟨o1, o2, _, _⟩ := chk_ok HCK.out hp hx
              have : ∀ k : Nat, k < 38 → 0 ≤ (argsP (k : Int)).1 ∧ (argsP (k : Int)).1 ≤ 2 ∧ 0 ≤ (argsP (k : Int)).2 ∧ (argsP (k : Int)).2 ≤ 2 := by decide
              have := this op.toNat (by omega)
              rw [Int.toNat_of_nonneg o1, hai, hao] at this
              exact this
            rw [hai, hao] at hin2
            rw [hai, hao] at kA0
            have kA : ∀ w, Calls Try.prog 63 #[.int .i64 op] w fun e w' => e = .returned (.tuple #[.int .i64 ai, .int .i64 ao]) ∧ New w w' := kA0
            have kDo : ∀ (w' : World) (L' : List (Nat × Array Value)) (R' : List (Nat × Value × List Value)), Mem wl w' L' R' → (1, .slice sa sn sc, cellsU S) ∈ R' → (1, .slice ca cn cc, cellsN C) ∈ R' → (2, .slice la ln lcap, cellsI l) ∈ R' →
                Calls Try.prog 73 #[.slice la ln lcap, .agg #[.int .i64 st, .int .i64 (p : Int), .slice sa sn sc, .slice ca cn cc, .int .u64 (wk : Nat), .int .i64 sk, .int .i64 er], .agg (pg b q)] w' fun e w2 => ∃ pa pn pcp ra rn rcp, e = .returned (.tuple #[.agg #[.int .i64 st', .int .i64 pc', .slice pa pn pcp, .slice ra rn rcp, .int .u64 (wk' : Nat), .int .i64 sk', .int .i64 er'], .agg (pg b q'), .int .i64 0]) ∧ Hid (S'.length = pn) ∧ Hid (C'.length = rn) ∧ Mem wl w2 L' ((1, .slice pa pn pcp, cellsU S') :: (1, .slice ra rn rcp, cellsN C') :: R') := fun w' L' R' h1 h2 h3 h4 =>
              (kDo0 w' L' R' h1 h4 h2 h3).mono fun e w2 ⟨sv', cv', g1, g2⟩ => by
                obtain ⟨pa, pn, pcp, rfl, f1, _⟩ := id (g2.rd Mem.z)
                obtain ⟨ra, rn, rcp, rfl, f2, _⟩ := id (g2.rd (Mem.s Mem.z))
                rw [cellsU_len] at f1
                rw [cellsN_len] at f2
                exact ⟨pa, pn, pcp, ra, rn, rcp, g1, Lib.hid (by simpa using f1), Lib.hid (by simpa using f2), g2⟩
            have HN2 : Hid (Inn l ⟨st', pc', S', C', wk', sk', er'⟩ ∧ GoodS S' ∧ GoodQ q') := Lib.hid ⟨hin1, hgd2⟩
            have HSum : Hid ((S'.length : Int) = (S.length : Int) - ai + ao) := Lib.hid hin2
            obtain ⟨lb, lo, _, _, e, e9⟩ := (hv.rd (Mem.s (Mem.s Mem.z))).some (by rw [len_cellsI]; omega)
            cases e
            clear e9
            have hpl : (p : Int) < (ln : Int) := by rw [← HLN.out]; omega
            have r0 : decide (pc' < 0) = false := decide_eq_false (by have := HN2.out.1.lo; simp only at this; omega)
            have r1 : decide ((ln : Int) ≤ pc') = false := decide_eq_false (by have := HN2.out.1.hi; simp only at this; rw [HLN.out] at this; omega)
            have hsl : S.length = sn := hgd.out.2.2.2.1
            have hs32 : S.length ≤ 32 := hgd.out.1.S
            have s1 : IntKind.i64.wrap ((sn : Int) - ai) = (sn : Int) - ai := IntWalk.i64_in _ (by omega)
            have HSL := Lib.hid hsl
            have HS32 := Lib.hid hs32
            have HB1 := Lib.hid hb1
            clear kDo0 hgd2 hin1 hin2 hai hao hb1 kA0 hx hgd3 hp hsl hs32
            go_wp2_with (first
              | (go_at_call 73; (with_reducible refine (kDo _ _ _ hv Mem.z (Mem.s Mem.z) (Mem.s (Mem.s Mem.z))).mono ?_); rintro e w1 ⟨pa, pn, pcp, ra, rn, rcp, rfl, hsn, hcn, hv1⟩; replace hv := hv1; clear hv1; have s2 : IntKind.i64.wrap ((sn : Int) - ai + ao) = (pn : Int) := (by have a1 := HSum.out; have a2 := HSL.out; have a3 := hsn.out; have a4 := HN2.out.1.S; simp only at a4; rw [show (sn : Int) - ai + ao = (pn : Int) from by omega]; exact IntWalk.i64_in _ (by omega)); have r2 : decide ((32 : Int) < (pn : Int)) = false := decide_eq_false (by have a3 := hsn.out; have a4 := HN2.out.1.S; simp only at a4; omega); have r3 : decide ((16 : Int) < (rn : Int)) = false := decide_eq_false (by have a3 := hcn.out; have a4 := HN2.out.1.C; simp only at a4; omega))
              | ((with_reducible refine at_load (T := 79) ?_); refine wl_ldv rfl b4 rfl _ (hv.vars.row (by first | exact .head _ | exact .tail _ (.head _) | exact .tail _ (.tail _ (.head _)) | exact .tail _ (.tail _ (.tail _ (.head _))) | exact .tail _ (.tail _ (.tail _ (.tail _ (.head _)))) | exact .tail _ (.tail _ (.tail _ (.tail _ (.tail _ (.head _))))) | exact .tail _ (.tail _ (.tail _ (.tail _ (.tail _ (.tail _ (.head _)))))) | exact .tail _ (.tail _ (.tail _ (.tail _ (.tail _ (.tail _ (.tail _ (.head _))))))))) 7 _ Try.underlying79 rfl infoT (by decide) rfl ?_)
              | ((with_reducible refine at_load (T := 36) ?_); refine wl_ldv rfl b5 rfl _ (hv.vars.row (by first | exact .head _ | exact .tail _ (.head _) | exact .tail _ (.tail _ (.head _)) | exact .tail _ (.tail _ (.tail _ (.head _))) | exact .tail _ (.tail _ (.tail _ (.tail _ (.head _)))) | exact .tail _ (.tail _ (.tail _ (.tail _ (.tail _ (.head _))))) | exact .tail _ (.tail _ (.tail _ (.tail _ (.tail _ (.tail _ (.head _)))))) | exact .tail _ (.tail _ (.tail _ (.tail _ (.tail _ (.tail _ (.tail _ (.head _))))))))) 144 _ Try.underlying36 rfl infoPs (by decide) (size_pg _ _) ?_)
              | ((with_reducible refine at_alloc (T := 79) (dst := some 9) ?_); refine wl_newb rfl #[.int .i64 0, .int .i64 0, .slice none 0 0, .slice none 0 0, .int .u64 0, .int .i64 0, .int .i64 0] 79 (fun _ => rfl) ?_; intro b9 w2 hm2; replace hv := hv.madeAt hm2; clear hm2)
              | ((with_reducible refine at_alloc (T := 36) (dst := some 10) ?_); refine wl_newb rfl Try.zeroCells36 36 (fun _ => rfl) ?_; intro b10 w2 hm2; replace hv := hv.madeAt hm2; clear hm2)
              | ((with_reducible refine at_store (T := 79) ?_); refine wl_stv rfl b9 rfl _ rfl _ (hv.vars.row (by first | exact .head _ | exact .tail _ (.head _) | exact .tail _ (.tail _ (.head _)) | exact .tail _ (.tail _ (.tail _ (.head _))) | exact .tail _ (.tail _ (.tail _ (.tail _ (.head _)))) | exact .tail _ (.tail _ (.tail _ (.tail _ (.tail _ (.head _))))) | exact .tail _ (.tail _ (.tail _ (.tail _ (.tail _ (.tail _ (.head _)))))) | exact .tail _ (.tail _ (.tail _ (.tail _ (.tail _ (.tail _ (.tail _ (.head _))))))))) (hv.vars.sft (by first | exact .head _ | exact .tail _ (.head _) | exact .tail _ (.tail _ (.head _)) | exact .tail _ (.tail _ (.tail _ (.head _))) | exact .tail _ (.tail _ (.tail _ (.tail _ (.head _)))) | exact .tail _ (.tail _ (.tail _ (.tail _ (.tail _ (.head _))))) | exact .tail _ (.tail _ (.tail _ (.tail _ (.tail _ (.tail _ (.head _)))))) | exact .tail _ (.tail _ (.tail _ (.tail _ (.tail _ (.tail _ (.tail _ (.head _))))))))) 7 infoT rfl rfl (by simp [Value.oneCell']) ?_; intro w2 hw2; (first | (replace hv := hv.set 0 rfl hw2) | (replace hv := hv.set 1 rfl hw2) | (replace hv := hv.set 2 rfl hw2) | (replace hv := hv.set 3 rfl hw2) | (replace hv := hv.set 4 rfl hw2)); clear hw2; simp only [List.set] at hv)
              | ((with_reducible refine at_store (T := 36) ?_); refine wl_stv rfl b10 rfl _ rfl _ (hv.vars.row (by first | exact .head _ | exact .tail _ (.head _) | exact .tail _ (.tail _ (.head _)) | exact .tail _ (.tail _ (.tail _ (.head _))) | exact .tail _ (.tail _ (.tail _ (.tail _ (.head _)))) | exact .tail _ (.tail _ (.tail _ (.tail _ (.tail _ (.head _))))) | exact .tail _ (.tail _ (.tail _ (.tail _ (.tail _ (.tail _ (.head _)))))) | exact .tail _ (.tail _ (.tail _ (.tail _ (.tail _ (.tail _ (.tail _ (.head _))))))))) (hv.vars.sft (by first | exact .head _ | exact .tail _ (.head _) | exact .tail _ (.tail _ (.head _)) | exact .tail _ (.tail _ (.tail _ (.head _))) | exact .tail _ (.tail _ (.tail _ (.tail _ (.head _)))) | exact .tail _ (.tail _ (.tail _ (.tail _ (.tail _ (.head _))))) | exact .tail _ (.tail _ (.tail _ (.tail _ (.tail _ (.tail _ (.head _)))))) | exact .tail _ (.tail _ (.tail _ (.tail _ (.tail _ (.tail _ (.tail _ (.head _))))))))) 144 infoPs (size_pg _ _) (by rw [zeroPs, size_pg]) (one_pg _ _) ?_; intro w2 hw2; (first | (replace hv := hv.set 0 rfl hw2) | (replace hv := hv.set 1 rfl hw2) | (replace hv := hv.set 2 rfl hw2) | (replace hv := hv.set 3 rfl hw2) | (replace hv := hv.set 4 rfl hw2)); clear hw2; simp only [List.set] at hv)
              | ((with_reducible refine at_load (T := 3) ?_); refine wl_rd rfl (hv.rd (Mem.s (Mem.s (Mem.s (Mem.s Mem.z))))) (p * 2) rfl _ Try.underlying3 rfl (.int .i64 op) HOP.out ?_)
              | (go_at_call 63; (with_reducible refine (kA _).mono ?_); rintro e w1 ⟨rfl, hn1⟩; replace hv := hv.new hn1; clear hn1)
              | ((with_reducible refine at_load (T := 3) ?_); refine wl_ldc rfl _ _ rfl _ (hv.vars.row (by first | exact .head _ | exact .tail _ (.head _) | exact .tail _ (.tail _ (.head _)) | exact .tail _ (.tail _ (.tail _ (.head _))) | exact .tail _ (.tail _ (.tail _ (.tail _ (.head _)))) | exact .tail _ (.tail _ (.tail _ (.tail _ (.tail _ (.head _))))) | exact .tail _ (.tail _ (.tail _ (.tail _ (.tail _ (.tail _ (.head _)))))) | exact .tail _ (.tail _ (.tail _ (.tail _ (.tail _ (.tail _ (.tail _ (.head _))))))))) _ Try.underlying3 rfl _ rfl ?_)
              | ((with_reducible refine at_load (T := 29) ?_); refine wl_ldc rfl _ _ rfl _ (hv.vars.row (by first | exact .head _ | exact .tail _ (.head _) | exact .tail _ (.tail _ (.head _)) | exact .tail _ (.tail _ (.tail _ (.head _))) | exact .tail _ (.tail _ (.tail _ (.tail _ (.head _)))) | exact .tail _ (.tail _ (.tail _ (.tail _ (.tail _ (.head _))))) | exact .tail _ (.tail _ (.tail _ (.tail _ (.tail _ (.tail _ (.head _)))))) | exact .tail _ (.tail _ (.tail _ (.tail _ (.tail _ (.tail _ (.tail _ (.head _))))))))) _ Try.underlying29 rfl _ rfl ?_)
              | ((with_reducible refine at_load (T := 32) ?_); refine wl_ldc rfl _ _ rfl _ (hv.vars.row (by first | exact .head _ | exact .tail _ (.head _) | exact .tail _ (.tail _ (.head _)) | exact .tail _ (.tail _ (.tail _ (.head _))) | exact .tail _ (.tail _ (.tail _ (.tail _ (.head _)))) | exact .tail _ (.tail _ (.tail _ (.tail _ (.tail _ (.head _))))) | exact .tail _ (.tail _ (.tail _ (.tail _ (.tail _ (.tail _ (.head _)))))) | exact .tail _ (.tail _ (.tail _ (.tail _ (.tail _ (.tail _ (.tail _ (.head _))))))))) _ Try.underlying32 rfl _ rfl ?_))
            refine Any.wp_region_walk [⟨[1001], none⟩, ⟨[1000], none⟩, ⟨[1003], some 1003⟩, ⟨[1002], some 1002⟩] [.val, .val, .put, .put] (by kernel_rfl) (by kernel_rfl) hv.vars ?_
            simp only [List.length_cons, List.length_nil, Nat.zero_add, Any.someVals]
            iterate 4 apply Exists.intro
            repeat (first
              | (refine Any.E_off rfl ?_; simp only [Act.put, List.setIfInBounds_toArray, List.set_cons_succ, List.set_cons_zero])
              | (apply Any.E_pureq rfl rfl rfl
                 case h => intro K hK; go_big_quiet_op; (refine hK _ ?_; rfl)
                 case hr => exact fun _ => rfl
                 simp only [Act.put, List.setIfInBounds_toArray, List.set_cons_succ, List.set_cons_zero])
              | (apply Any.E_val rfl rfl rfl rfl
                 case h =>
                   intro E' hA K hK
                   first
                     | ((with_reducible refine Any.at_qload (T := 79) ?_); refine Any.q_ldv 1001 hA (by decide) rfl rfl 7 _ Try.underlying79 rfl infoT (by decide) rfl ?_; refine hK _ ?_; rfl)
                     | ((with_reducible refine Any.at_qload (T := 36) ?_); refine Any.q_ldv 1000 hA (by decide) rfl rfl 144 _ Try.underlying36 rfl infoPs (by decide) (size_pg _ _) ?_; refine hK _ ?_; rfl)
                     | (go_big_quiet_op; first
                       | (refine hK _ ?_; rfl)
                       | (refine ⟨_, fun _ _ => rfl, ?_⟩; refine hK _ ?_; rfl)
                       | (apply Exists.intro; refine ⟨fun w1 hw1 => ?_, ?_⟩; · (first
                           | fail)
                          refine hK _ ?_; rfl))
                 case hD => rfl
                 simp only [Act.put, List.setIfInBounds_toArray, List.set_cons_succ, List.set_cons_zero])
              | ((with_reducible refine Any.at_ealloc ?_); refine Any.E_lay rfl rfl rfl (fun _ => rfl) ?_; intro B; simp only [Act.put, List.setIfInBounds_toArray, List.set_cons_succ, List.set_cons_zero])
              | ((with_reducible refine Any.at_estore (T := 79) ?_); refine Any.E_putv (T := 79) rfl rfl rfl rfl rfl rfl 7 infoT rfl rfl (by simp [Value.oneCell']) ?_; simp only [Act.put, List.setIfInBounds_toArray, List.set_cons_succ, List.set_cons_zero])
              | ((with_reducible refine Any.at_estore (T := 36) ?_); refine Any.E_putv (T := 36) rfl rfl rfl rfl rfl rfl 144 infoPs (size_pg _ _) (size_pg _ _) (one_pg _ _) ?_; simp only [Act.put, List.setIfInBounds_toArray, List.set_cons_succ, List.set_cons_zero]))
            try any_goals exact undef
            refine Any.E_nil ?_
            intro w9 hE9
            replace hv := hE9.mem hv [1002, 1003] (by decide)
            clear hE9
            go_wp2
            go_roundw
            case rel => exact ⟨k + 1, st', pc', sk', er', wk', S', C', q', pa, ra, pn, pcp, rn, rcp, by omega, by go_num, Lib.hid ⟨HN2.out.1, HN2.out.2.1, HN2.out.2.2, hsn.out, hcn.out⟩, hv.keepR (mem_two Mem.z (Mem.s Mem.z) (fun y hy => by rw [List.mem_singleton.1 hy]; exact Mem.s (Mem.s (Mem.s (Mem.s Mem.z)))))⟩
            case measure => simp [intOf]; omega
          · have her := doF_err (b := b) he
            generalize doF l ⟨st, pc, S, C, wk, sk, er⟩ b q = r at *
            obtain ⟨t', q', e'⟩ := r
            simp only at he her
            obtain ⟨rfl, rfl⟩ := her
            have kDo : ∀ (w' : World) (L' : List (Nat × Array Value)) (R' : List (Nat × Value × List Value)), Mem wl w' L' R' → (1, .slice sa sn sc, cellsU S) ∈ R' → (1, .slice ca cn cc, cellsN C) ∈ R' → (2, .slice la ln lcap, cellsI l) ∈ R' →
                Calls Try.prog 73 #[.slice la ln lcap, .agg #[.int .i64 st, .int .i64 pc, .slice sa sn sc, .slice ca cn cc, .int .u64 (wk : Nat), .int .i64 sk, .int .i64 er], .agg (pg b q')] w' fun e w2 => ∃ pa pcp ra rcp, e = .returned (.tuple #[.agg #[.int .i64 st, .int .i64 pc, .slice pa sn pcp, .slice ra cn rcp, .int .u64 (wk : Nat), .int .i64 sk, .int .i64 er], .agg (pg b q'), .int .i64 e']) ∧ Mem wl w2 L' ((1, .slice pa sn pcp, cellsU S) :: (1, .slice ra cn rcp, cellsN C) :: R') := fun w' L' R' h1 h2 h3 h4 =>
              (kDo0 w' L' R' h1 h4 h2 h3).mono fun e w2 ⟨sv', cv', g1, g2⟩ => by
                obtain ⟨pa, pn, pcp, rfl, f1, _⟩ := id (g2.rd Mem.z)
                obtain ⟨ra, rn, rcp, rfl, f2, _⟩ := id (g2.rd (Mem.s Mem.z))
                rw [cellsU_len, Nat.mul_one] at f1
                rw [cellsN_len, Nat.mul_one] at f2
                obtain rfl : sn = pn := by rw [← hgd.out.2.2.2.1]; exact f1
                obtain rfl : cn = rn := by rw [← hgd.out.2.2.2.2]; exact f2
                exact ⟨pa, pcp, ra, rcp, g1, g2⟩
            have he2 : (e' == 0) = false := by rw [beq_eq_false_iff_ne]; exact he
            clear kDo0 hgd2 he
            go_wp2_with (first
              | (go_at_call 73; (with_reducible refine (kDo _ _ _ hv Mem.z (Mem.s Mem.z) (Mem.s (Mem.s Mem.z))).mono ?_); rintro e w1 ⟨pa, pcp, ra, rcp, rfl, hv1⟩; replace hv := hv1; clear hv1)
              | ((with_reducible refine at_load (T := 79) ?_); refine wl_ldv rfl b4 rfl _ (hv.vars.row (by first | exact .head _ | exact .tail _ (.head _) | exact .tail _ (.tail _ (.head _)) | exact .tail _ (.tail _ (.tail _ (.head _))) | exact .tail _ (.tail _ (.tail _ (.tail _ (.head _)))) | exact .tail _ (.tail _ (.tail _ (.tail _ (.tail _ (.head _))))) | exact .tail _ (.tail _ (.tail _ (.tail _ (.tail _ (.tail _ (.head _)))))) | exact .tail _ (.tail _ (.tail _ (.tail _ (.tail _ (.tail _ (.tail _ (.head _))))))))) 7 _ Try.underlying79 rfl infoT (by decide) rfl ?_)
              | ((with_reducible refine at_load (T := 36) ?_); refine wl_ldv rfl b5 rfl _ (hv.vars.row (by first | exact .head _ | exact .tail _ (.head _) | exact .tail _ (.tail _ (.head _)) | exact .tail _ (.tail _ (.tail _ (.head _))) | exact .tail _ (.tail _ (.tail _ (.tail _ (.head _)))) | exact .tail _ (.tail _ (.tail _ (.tail _ (.tail _ (.head _))))) | exact .tail _ (.tail _ (.tail _ (.tail _ (.tail _ (.tail _ (.head _)))))) | exact .tail _ (.tail _ (.tail _ (.tail _ (.tail _ (.tail _ (.tail _ (.head _))))))))) 144 _ Try.underlying36 rfl infoPs (by decide) (size_pg _ _) ?_)
              | ((with_reducible refine at_alloc (T := 79) (dst := some 9) ?_); refine wl_newb rfl #[.int .i64 0, .int .i64 0, .slice none 0 0, .slice none 0 0, .int .u64 0, .int .i64 0, .int .i64 0] 79 (fun _ => rfl) ?_; intro b9 w2 hm2; replace hv := hv.madeAt hm2; clear hm2)
              | ((with_reducible refine at_alloc (T := 36) (dst := some 10) ?_); refine wl_newb rfl Try.zeroCells36 36 (fun _ => rfl) ?_; intro b10 w2 hm2; replace hv := hv.madeAt hm2; clear hm2)
              | ((with_reducible refine at_store (T := 79) ?_); refine wl_stv rfl b9 rfl _ rfl _ (hv.vars.row (by first | exact .head _ | exact .tail _ (.head _) | exact .tail _ (.tail _ (.head _)) | exact .tail _ (.tail _ (.tail _ (.head _))) | exact .tail _ (.tail _ (.tail _ (.tail _ (.head _)))) | exact .tail _ (.tail _ (.tail _ (.tail _ (.tail _ (.head _))))) | exact .tail _ (.tail _ (.tail _ (.tail _ (.tail _ (.tail _ (.head _)))))) | exact .tail _ (.tail _ (.tail _ (.tail _ (.tail _ (.tail _ (.tail _ (.head _))))))))) (hv.vars.sft (by first | exact .head _ | exact .tail _ (.head _) | exact .tail _ (.tail _ (.head _)) | exact .tail _ (.tail _ (.tail _ (.head _))) | exact .tail _ (.tail _ (.tail _ (.tail _ (.head _)))) | exact .tail _ (.tail _ (.tail _ (.tail _ (.tail _ (.head _))))) | exact .tail _ (.tail _ (.tail _ (.tail _ (.tail _ (.tail _ (.head _)))))) | exact .tail _ (.tail _ (.tail _ (.tail _ (.tail _ (.tail _ (.tail _ (.head _))))))))) 7 infoT rfl rfl (by simp [Value.oneCell']) ?_; intro w2 hw2; (first | (replace hv := hv.set 0 rfl hw2) | (replace hv := hv.set 1 rfl hw2) | (replace hv := hv.set 2 rfl hw2) | (replace hv := hv.set 3 rfl hw2) | (replace hv := hv.set 4 rfl hw2)); clear hw2; simp only [List.set] at hv)
              | ((with_reducible refine at_store (T := 36) ?_); refine wl_stv rfl b10 rfl _ rfl _ (hv.vars.row (by first | exact .head _ | exact .tail _ (.head _) | exact .tail _ (.tail _ (.head _)) | exact .tail _ (.tail _ (.tail _ (.head _))) | exact .tail _ (.tail _ (.tail _ (.tail _ (.head _)))) | exact .tail _ (.tail _ (.tail _ (.tail _ (.tail _ (.head _))))) | exact .tail _ (.tail _ (.tail _ (.tail _ (.tail _ (.tail _ (.head _)))))) | exact .tail _ (.tail _ (.tail _ (.tail _ (.tail _ (.tail _ (.tail _ (.head _))))))))) (hv.vars.sft (by first | exact .head _ | exact .tail _ (.head _) | exact .tail _ (.tail _ (.head _)) | exact .tail _ (.tail _ (.tail _ (.head _))) | exact .tail _ (.tail _ (.tail _ (.tail _ (.head _)))) | exact .tail _ (.tail _ (.tail _ (.tail _ (.tail _ (.head _))))) | exact .tail _ (.tail _ (.tail _ (.tail _ (.tail _ (.tail _ (.head _)))))) | exact .tail _ (.tail _ (.tail _ (.tail _ (.tail _ (.tail _ (.tail _ (.head _))))))))) 144 infoPs (size_pg _ _) (by rw [zeroPs, size_pg]) (one_pg _ _) ?_; intro w2 hw2; (first | (replace hv := hv.set 0 rfl hw2) | (replace hv := hv.set 1 rfl hw2) | (replace hv := hv.set 2 rfl hw2) | (replace hv := hv.set 3 rfl hw2) | (replace hv := hv.set 4 rfl hw2)); clear hw2; simp only [List.set] at hv)
              | ((with_reducible refine at_load (T := 79) ?_); refine wl_ldv rfl b9 rfl _ (hv.vars.row (by first | exact .head _ | exact .tail _ (.head _) | exact .tail _ (.tail _ (.head _)) | exact .tail _ (.tail _ (.tail _ (.head _))) | exact .tail _ (.tail _ (.tail _ (.tail _ (.head _)))) | exact .tail _ (.tail _ (.tail _ (.tail _ (.tail _ (.head _))))) | exact .tail _ (.tail _ (.tail _ (.tail _ (.tail _ (.tail _ (.head _)))))) | exact .tail _ (.tail _ (.tail _ (.tail _ (.tail _ (.tail _ (.tail _ (.head _))))))))) 7 _ Try.underlying79 rfl infoT (by decide) rfl ?_)
              | ((with_reducible refine at_load (T := 36) ?_); refine wl_ldv rfl b10 rfl _ (hv.vars.row (by first | exact .head _ | exact .tail _ (.head _) | exact .tail _ (.tail _ (.head _)) | exact .tail _ (.tail _ (.tail _ (.head _))) | exact .tail _ (.tail _ (.tail _ (.tail _ (.head _)))) | exact .tail _ (.tail _ (.tail _ (.tail _ (.tail _ (.head _))))) | exact .tail _ (.tail _ (.tail _ (.tail _ (.tail _ (.tail _ (.head _)))))) | exact .tail _ (.tail _ (.tail _ (.tail _ (.tail _ (.tail _ (.tail _ (.head _))))))))) 144 _ Try.underlying36 rfl infoPs (by decide) (size_pg _ _) ?_)
              | (go_at_call 74; (refine (One_same st pc sk er wk S C _ _ _ _ _ (hv.rd Mem.z) (hv.rd (Mem.s (Mem.s Mem.z))) (hv.rd (Mem.s Mem.z)) (hv.rd (Mem.s (Mem.s (Mem.s Mem.z))))).mono ?_); rintro e w1 ⟨rfl, hn1⟩; replace hv := hv.new hn1; clear hn1)
              | (go_at_call 71; (with_reducible refine (heads30 _).mono ?_); rintro e w1 ⟨rfl, hn1⟩; replace hv := hv.new hn1; clear hn1))
            go_ret
            exact ⟨rfl, hv.below⟩
        · have hki : ¬ (k : Int) < 60 := by omega
          go_wp2_with (first
            | (go_at_call 71; (with_reducible refine (heads30 _).mono ?_); rintro e w1 ⟨rfl, hn1⟩; replace hv := hv.new hn1; clear hn1))
          go_ret
          exact ⟨rfl, hv.below⟩
theorem InterpInside_any (lv sv cv : Value) (st pc sk er : Int) (wk : Nat) (S : List Nat) (C : List Int) (l : List Cd.Inst) (b : Nat → Bool) (q : Nat → Nat → Nat) (wl : World) (hl : Rd wl 2 lv (cellsI l)) (hg : ∀ x ∈ l, goodI x) (hs : Rd wl 1 sv (cellsU S)) (hc : Rd wl 1 cv (cellsN C)) (hu : ∀ x ∈ S, x < 18446744073709551616) (hq : ∀ i k, q i k < 18446744073709551616) :
    Calls Try.prog 16 #[lv, .agg #[.int .i64 st, .int .i64 pc, sv, cv, .int .u64 (wk : Nat), .int .i64 sk, .int .i64 er], .agg (pg b q)] wl fun e w' => e = .returned (.bool true) ∧ New wl w' := by
  obtain ⟨la, ln, lcap, rfl, _⟩ := id hl
  obtain ⟨sa, sn, sc, rfl, _⟩ := id hs
  obtain ⟨ca, cn, cc, rfl, _⟩ := id hc
  by_cases h : Cd.chk l = false ∨ pc < 0 ∨ (ln : Int) ≤ pc ∨ 32 < sn ∨ 16 < cn
  · exact Inside_out st pc sk er wk sa ca sn sc cn cc S C la ln lcap l b q wl hl hg hs hc h
  · simp only [not_or] at h
    obtain ⟨a1, a2, a3, a4, a5⟩ := h
    exact Inside_in st pc sk er wk sa ca sn sc cn cc S C la ln lcap l b q wl hl hg hs hc hu hq (by simpa using a1) (by omega) (by omega) (by omega) (by omega)
end Go.Proofs.Ythpodinbbmgfoaa
