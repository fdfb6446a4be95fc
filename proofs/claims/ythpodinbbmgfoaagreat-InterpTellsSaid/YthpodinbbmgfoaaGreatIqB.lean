import Derived.Test.YthpodinbbmgfoaaGreatIqA
import Derived.Test.YthpodinbbmgfoaaGreatIqL
import Derived.Test.YthpodinbbmgfoaaGreatCdRef
import Derived.Test.YthpodinbbmgfoaaGreatIpDoAny
import Derived.Test.YthpodinbbmgfoaaGreatIpOne
import Derived.Test.YthpodinbbmgfoaaGreatIpHead
import Derived.Test.YthpodinbbmgfoaaGreatPgEq
section
/-
  The reference's Do.
-/
set_option linter.unusedVariables false
set_option linter.unusedSimpArgs false
namespace Go.Proofs.YthpodinbbmgfoaaGreat
open Go.Proofs.Ip Go.Proofs.Pt Go.Proofs.Pg Go.Proofs.Cd Go.RowKit
theorem len_rdU {w : World} {a : Option Addr} {n c : Nat} {S : List Nat} (h : Rd w 1 (.slice a n c) (cellsU S)) : S.length = n := by
  obtain ⟨_, _, _, e, g, _⟩ := h
  cases e
  rw [cellsU_len] at g; omega
set_option maxRecDepth 100000 in
set_option maxHeartbeats 4000000 in
theorem rdo_no (st pc sk er : Int) (wk : Nat) (sa ca : Option Addr) (sn sc cn cc : Nat) (S : List Nat) (C : List Int) (la : Option Addr) (ln lcap : Nat) (l : List Cd.Inst) (b : Nat → Bool) (q : Nat → Nat → Nat) (w0 w : World) (L : List (Nat × Array Value)) (R : List (Nat × Value × List Value)) (hv0 : Mem w0 w L R) (hl : (2, .slice la ln lcap, cellsI l) ∈ R) (hs : (1, .slice sa sn sc, cellsU S) ∈ R) (hc : (1, .slice ca cn cc, cellsN C) ∈ R) (hg : ∀ x ∈ l, goodI x) (hbad : Cd.chk l = false ∨ pc < 0 ∨ (ln : Int) ≤ pc ∨ 32 < sn ∨ 16 < cn) :
    Calls Tryz.prog 7 #[.slice la ln lcap, .agg #[.int .i64 st, .int .i64 pc, .slice sa sn sc, .slice ca cn cc, .int .u64 (wk : Nat), .int .i64 sk, .int .i64 er], .agg (pg b q)] w (DoA w0 L R b (⟨st, pc, S, C, wk, sk, er⟩, q, 290)) := by
  have hv := hv0
  have HLm := Lib.hid hl
  have HSm := Lib.hid hs
  have HCm := Lib.hid hc
  have kC0 := fun w' h => RCheck_any (.slice la ln lcap) l w' h hg
  have hcase : Cd.chk l = false ∨ Cd.chk l = true ∧ (pc < 0 ∨ (0 ≤ pc ∧ (ln : Int) ≤ pc) ∨ (0 ≤ pc ∧ pc < ln ∧ (32 : Int) < sn) ∨ (0 ≤ pc ∧ pc < ln ∧ (sn : Int) ≤ 32 ∧ (16 : Int) < cn)) := by
    by_cases h : Cd.chk l = false
    · exact .inl h
    · refine .inr ⟨by simpa using h, ?_⟩
      have := hbad.resolve_left h
      omega
  clear hbad hl hs hc hv0 hg
  rcases hcase with h0 | ⟨h0, h1 | ⟨h1, h2⟩ | ⟨h1, h2, h3⟩ | ⟨h1, h2, h3, h4⟩⟩
  · rw [h0] at kC0
    have kC : ∀ w', Rd w' 2 (.slice la ln lcap) (cellsI l) → Calls Tryz.prog 17 #[.slice la ln lcap] w' fun e w2 => e = .returned (.bool false) ∧ New w' w2 := kC0
    clear kC0 h0 
    go_enter Tryz.func7, Tryz.ntmps7
    go_wp2_with (first
      | ((with_reducible refine at_box (T := 28) (dst := some 4) ?_); refine wl_newb rfl #[.int .i64 st, .int .i64 pc, .slice sa sn sc, .slice ca cn cc, .int .u64 (wk : Nat), .int .i64 sk, .int .i64 er] 28 (fun _ => rfl) ?_; intro b4 w2 hm2; replace hv := hv.madeAt hm2; clear hm2)
      | ((with_reducible refine at_box (T := 32) (dst := some 5) ?_); refine wl_newb rfl (pg b q) 32 (fun _ => rfl) ?_; intro b5 w2 hm2; replace hv := hv.madeAt hm2; clear hm2)
      | ((with_reducible refine at_alloc (T := 28) (dst := some 6) ?_); refine wl_newb rfl #[.int .i64 0, .int .i64 0, .slice none 0 0, .slice none 0 0, .int .u64 0, .int .i64 0, .int .i64 0] 28 (fun _ => rfl) ?_; intro b6 w2 hm2; replace hv := hv.madeAt hm2; clear hm2)
      | ((with_reducible refine at_alloc (T := 32) (dst := some 7) ?_); refine wl_newb rfl Tryz.zeroCells32 32 (fun _ => rfl) ?_; intro b7 w2 hm2; replace hv := hv.madeAt hm2; clear hm2)
      | (go_at_call 17; (with_reducible refine (kC _ (hv.rd HLm.out)).mono ?_); rintro e w1 ⟨rfl, hn1⟩; replace hv := hv.new hn1; clear hn1)
      | ((with_reducible refine at_load (T := 3) ?_); refine wl_ldc rfl _ _ rfl _ (hv.vars.row (by first | exact .head _ | exact .tail _ (.head _) | exact .tail _ (.tail _ (.head _)) | exact .tail _ (.tail _ (.tail _ (.head _))) | exact .tail _ (.tail _ (.tail _ (.tail _ (.head _)))) | exact .tail _ (.tail _ (.tail _ (.tail _ (.tail _ (.head _))))) | exact .tail _ (.tail _ (.tail _ (.tail _ (.tail _ (.tail _ (.head _)))))) | exact .tail _ (.tail _ (.tail _ (.tail _ (.tail _ (.tail _ (.tail _ (.head _))))))))) _ Tryz.underlying3 rfl _ rfl ?_)
      | ((with_reducible refine at_load (T := 23) ?_); refine wl_ldc rfl _ _ rfl _ (hv.vars.row (by first | exact .head _ | exact .tail _ (.head _) | exact .tail _ (.tail _ (.head _)) | exact .tail _ (.tail _ (.tail _ (.head _))) | exact .tail _ (.tail _ (.tail _ (.tail _ (.head _)))) | exact .tail _ (.tail _ (.tail _ (.tail _ (.tail _ (.head _))))) | exact .tail _ (.tail _ (.tail _ (.tail _ (.tail _ (.tail _ (.head _)))))) | exact .tail _ (.tail _ (.tail _ (.tail _ (.tail _ (.tail _ (.tail _ (.head _))))))))) _ Tryz.underlying23 rfl _ rfl ?_)
      | ((with_reducible refine at_load (T := 24) ?_); refine wl_ldc rfl _ _ rfl _ (hv.vars.row (by first | exact .head _ | exact .tail _ (.head _) | exact .tail _ (.tail _ (.head _)) | exact .tail _ (.tail _ (.tail _ (.head _))) | exact .tail _ (.tail _ (.tail _ (.tail _ (.head _)))) | exact .tail _ (.tail _ (.tail _ (.tail _ (.tail _ (.head _))))) | exact .tail _ (.tail _ (.tail _ (.tail _ (.tail _ (.tail _ (.head _)))))) | exact .tail _ (.tail _ (.tail _ (.tail _ (.tail _ (.tail _ (.tail _ (.head _))))))))) _ Tryz.underlying24 rfl _ rfl ?_))
    refine Any.wp_region_walk [⟨[1003], none⟩, ⟨[1002], none⟩, ⟨[1001], some 1001⟩, ⟨[1000], some 1000⟩, ⟨[], none⟩] [.val, .val, .put, .put, .val] (by kernel_rfl) (by kernel_rfl) (hv.vars.keep (List.sublist_append_left [(b7, Tryz.zeroCells32), (b6, #[.int .i64 0, .int .i64 0, .slice none 0 0, .slice none 0 0, .int .u64 0, .int .i64 0, .int .i64 0]), (b5, pg b q), (b4, #[.int .i64 st, .int .i64 pc, .slice sa sn sc, .slice ca cn cc, .int .u64 (wk : Nat), .int .i64 sk, .int .i64 er])] L)) ?_
    simp only [List.length_cons, List.length_nil, Nat.zero_add, Any.someVals]
    iterate 5 apply Exists.intro
    repeat (first
      | (refine Any.E_off rfl ?_; simp only [Act.put, List.setIfInBounds_toArray, List.set_cons_succ, List.set_cons_zero])
      | (apply Any.E_pureq rfl rfl rfl
         case h => intro K hK; go_big_quiet_op; (refine hK _ ?_; rfl)
         case hr => exact fun _ => rfl
         simp only [Act.put, List.setIfInBounds_toArray, List.set_cons_succ, List.set_cons_zero])
      | (apply Any.E_val rfl rfl rfl rfl
         case h =>
           intro E' hA K hK
           first
             | ((with_reducible refine Any.at_qload (T := 28) ?_); refine Any.q_ldv 1003 hA (by decide) rfl rfl 7 _ Tryz.underlying28 rfl infoT (by decide) rfl ?_; refine hK _ ?_; rfl)
             | ((with_reducible refine Any.at_qload (T := 32) ?_); refine Any.q_ldv 1002 hA (by decide) rfl rfl 144 _ Tryz.underlying32 rfl infoPs (by decide) (size_pg _ _) ?_; refine hK _ ?_; rfl)
             | (go_big_quiet_op; first
               | (refine hK _ ?_; rfl)
               | (refine ⟨_, fun _ _ => rfl, ?_⟩; refine hK _ ?_; rfl)
               | (apply Exists.intro; refine ⟨fun w1 hw1 => ?_, ?_⟩; · (first
                   | fail)
                  refine hK _ ?_; rfl))
         case hD => rfl
         simp only [Act.put, List.setIfInBounds_toArray, List.set_cons_succ, List.set_cons_zero])
      | ((with_reducible refine Any.at_ealloc ?_); refine Any.E_lay rfl rfl rfl (fun _ => rfl) ?_; intro B; simp only [Act.put, List.setIfInBounds_toArray, List.set_cons_succ, List.set_cons_zero])
      | ((with_reducible refine Any.at_estore (T := 28) ?_); refine Any.E_putv (T := 28) rfl rfl rfl rfl rfl rfl 7 infoT rfl rfl (by simp [Value.oneCell']) ?_; simp only [Act.put, List.setIfInBounds_toArray, List.set_cons_succ, List.set_cons_zero])
      | ((with_reducible refine Any.at_estore (T := 32) ?_); refine Any.E_putv (T := 32) rfl rfl rfl rfl rfl rfl 144 infoPs (size_pg _ _) (by rw [zeroPs, size_pg]) (one_pg _ _) ?_; simp only [Act.put, List.setIfInBounds_toArray, List.set_cons_succ, List.set_cons_zero]))
    try any_goals exact undef
    refine Any.E_nil ?_
    intro w9 hE9
    replace hv : Mem w0 w9 ([(b7, (pg b q)), (b6, #[.int .i64 st, .int .i64 pc, .slice sa sn sc, .slice ca cn cc, .int .u64 (wk : Nat), .int .i64 sk, .int .i64 er]), (b5, pg b q), (b4, #[.int .i64 st, .int .i64 pc, .slice sa sn sc, .slice ca cn cc, .int .u64 (wk : Nat), .int .i64 sk, .int .i64 er])] ++ L) _ := hE9.memr hv [1000, 1001, 1002, 1003] (by decide)
    clear hE9
    simp only [List.cons_append, List.nil_append] at hv
    go_wp2
    refine ret_cell21 Tryz.results7 rfl (read_row _ _ 28 #[.int .i64 st, .int .i64 pc, .slice sa sn sc, .slice ca cn cc, .int .u64 (wk : Nat), .int .i64 sk, .int .i64 er] (hv.vars.row (.tail _ (.head _))) 7 _ Tryz.underlying28 rfl infoT (by decide) rfl) rfl (read_row _ _ 32 (pg b q) (hv.vars.row (.head _)) 144 _ Tryz.underlying32 rfl infoPs (by decide) (size_pg _ _)) rfl rfl ⟨_, _, rfl, (hv.drop.drop.drop.drop).keepR (mem_two HSm.out HCm.out (fun y hy => hy))⟩
  · rw [h0] at kC0
    have kC : ∀ w', Rd w' 2 (.slice la ln lcap) (cellsI l) → Calls Tryz.prog 17 #[.slice la ln lcap] w' fun e w2 => e = .returned (.bool true) ∧ New w' w2 := kC0
    have g0 : decide (pc < 0) = true := decide_eq_true (by omega)
    clear kC0 h0 h1
    go_enter Tryz.func7, Tryz.ntmps7
    go_wp2_with (first
      | ((with_reducible refine at_box (T := 28) (dst := some 4) ?_); refine wl_newb rfl #[.int .i64 st, .int .i64 pc, .slice sa sn sc, .slice ca cn cc, .int .u64 (wk : Nat), .int .i64 sk, .int .i64 er] 28 (fun _ => rfl) ?_; intro b4 w2 hm2; replace hv := hv.madeAt hm2; clear hm2)
      | ((with_reducible refine at_box (T := 32) (dst := some 5) ?_); refine wl_newb rfl (pg b q) 32 (fun _ => rfl) ?_; intro b5 w2 hm2; replace hv := hv.madeAt hm2; clear hm2)
      | ((with_reducible refine at_alloc (T := 28) (dst := some 6) ?_); refine wl_newb rfl #[.int .i64 0, .int .i64 0, .slice none 0 0, .slice none 0 0, .int .u64 0, .int .i64 0, .int .i64 0] 28 (fun _ => rfl) ?_; intro b6 w2 hm2; replace hv := hv.madeAt hm2; clear hm2)
      | ((with_reducible refine at_alloc (T := 32) (dst := some 7) ?_); refine wl_newb rfl Tryz.zeroCells32 32 (fun _ => rfl) ?_; intro b7 w2 hm2; replace hv := hv.madeAt hm2; clear hm2)
      | (go_at_call 17; (with_reducible refine (kC _ (hv.rd HLm.out)).mono ?_); rintro e w1 ⟨rfl, hn1⟩; replace hv := hv.new hn1; clear hn1)
      | ((with_reducible refine at_load (T := 3) ?_); refine wl_ldc rfl _ _ rfl _ (hv.vars.row (by first | exact .head _ | exact .tail _ (.head _) | exact .tail _ (.tail _ (.head _)) | exact .tail _ (.tail _ (.tail _ (.head _))) | exact .tail _ (.tail _ (.tail _ (.tail _ (.head _)))) | exact .tail _ (.tail _ (.tail _ (.tail _ (.tail _ (.head _))))) | exact .tail _ (.tail _ (.tail _ (.tail _ (.tail _ (.tail _ (.head _)))))) | exact .tail _ (.tail _ (.tail _ (.tail _ (.tail _ (.tail _ (.tail _ (.head _))))))))) _ Tryz.underlying3 rfl _ rfl ?_)
      | ((with_reducible refine at_load (T := 23) ?_); refine wl_ldc rfl _ _ rfl _ (hv.vars.row (by first | exact .head _ | exact .tail _ (.head _) | exact .tail _ (.tail _ (.head _)) | exact .tail _ (.tail _ (.tail _ (.head _))) | exact .tail _ (.tail _ (.tail _ (.tail _ (.head _)))) | exact .tail _ (.tail _ (.tail _ (.tail _ (.tail _ (.head _))))) | exact .tail _ (.tail _ (.tail _ (.tail _ (.tail _ (.tail _ (.head _)))))) | exact .tail _ (.tail _ (.tail _ (.tail _ (.tail _ (.tail _ (.tail _ (.head _))))))))) _ Tryz.underlying23 rfl _ rfl ?_)
      | ((with_reducible refine at_load (T := 24) ?_); refine wl_ldc rfl _ _ rfl _ (hv.vars.row (by first | exact .head _ | exact .tail _ (.head _) | exact .tail _ (.tail _ (.head _)) | exact .tail _ (.tail _ (.tail _ (.head _))) | exact .tail _ (.tail _ (.tail _ (.tail _ (.head _)))) | exact .tail _ (.tail _ (.tail _ (.tail _ (.tail _ (.head _))))) | exact .tail _ (.tail _ (.tail _ (.tail _ (.tail _ (.tail _ (.head _)))))) | exact .tail _ (.tail _ (.tail _ (.tail _ (.tail _ (.tail _ (.tail _ (.head _))))))))) _ Tryz.underlying24 rfl _ rfl ?_))
    refine Any.wp_region_walk [⟨[1003], none⟩, ⟨[1002], none⟩, ⟨[1001], some 1001⟩, ⟨[1000], some 1000⟩, ⟨[], none⟩] [.val, .val, .put, .put, .val] (by kernel_rfl) (by kernel_rfl) (hv.vars.keep (List.sublist_append_left [(b7, Tryz.zeroCells32), (b6, #[.int .i64 0, .int .i64 0, .slice none 0 0, .slice none 0 0, .int .u64 0, .int .i64 0, .int .i64 0]), (b5, pg b q), (b4, #[.int .i64 st, .int .i64 pc, .slice sa sn sc, .slice ca cn cc, .int .u64 (wk : Nat), .int .i64 sk, .int .i64 er])] L)) ?_
    simp only [List.length_cons, List.length_nil, Nat.zero_add, Any.someVals]
    iterate 5 apply Exists.intro
    repeat (first
      | (refine Any.E_off rfl ?_; simp only [Act.put, List.setIfInBounds_toArray, List.set_cons_succ, List.set_cons_zero])
      | (apply Any.E_pureq rfl rfl rfl
         case h => intro K hK; go_big_quiet_op; (refine hK _ ?_; rfl)
         case hr => exact fun _ => rfl
         simp only [Act.put, List.setIfInBounds_toArray, List.set_cons_succ, List.set_cons_zero])
      | (apply Any.E_val rfl rfl rfl rfl
         case h =>
           intro E' hA K hK
           first
             | ((with_reducible refine Any.at_qload (T := 28) ?_); refine Any.q_ldv 1003 hA (by decide) rfl rfl 7 _ Tryz.underlying28 rfl infoT (by decide) rfl ?_; refine hK _ ?_; rfl)
             | ((with_reducible refine Any.at_qload (T := 32) ?_); refine Any.q_ldv 1002 hA (by decide) rfl rfl 144 _ Tryz.underlying32 rfl infoPs (by decide) (size_pg _ _) ?_; refine hK _ ?_; rfl)
             | (go_big_quiet_op; first
               | (refine hK _ ?_; rfl)
               | (refine ⟨_, fun _ _ => rfl, ?_⟩; refine hK _ ?_; rfl)
               | (apply Exists.intro; refine ⟨fun w1 hw1 => ?_, ?_⟩; · (first
                   | fail)
                  refine hK _ ?_; rfl))
         case hD => rfl
         simp only [Act.put, List.setIfInBounds_toArray, List.set_cons_succ, List.set_cons_zero])
      | ((with_reducible refine Any.at_ealloc ?_); refine Any.E_lay rfl rfl rfl (fun _ => rfl) ?_; intro B; simp only [Act.put, List.setIfInBounds_toArray, List.set_cons_succ, List.set_cons_zero])
      | ((with_reducible refine Any.at_estore (T := 28) ?_); refine Any.E_putv (T := 28) rfl rfl rfl rfl rfl rfl 7 infoT rfl rfl (by simp [Value.oneCell']) ?_; simp only [Act.put, List.setIfInBounds_toArray, List.set_cons_succ, List.set_cons_zero])
      | ((with_reducible refine Any.at_estore (T := 32) ?_); refine Any.E_putv (T := 32) rfl rfl rfl rfl rfl rfl 144 infoPs (size_pg _ _) (by rw [zeroPs, size_pg]) (one_pg _ _) ?_; simp only [Act.put, List.setIfInBounds_toArray, List.set_cons_succ, List.set_cons_zero]))
    try any_goals exact undef
    refine Any.E_nil ?_
    intro w9 hE9
    replace hv : Mem w0 w9 ([(b7, (pg b q)), (b6, #[.int .i64 st, .int .i64 pc, .slice sa sn sc, .slice ca cn cc, .int .u64 (wk : Nat), .int .i64 sk, .int .i64 er]), (b5, pg b q), (b4, #[.int .i64 st, .int .i64 pc, .slice sa sn sc, .slice ca cn cc, .int .u64 (wk : Nat), .int .i64 sk, .int .i64 er])] ++ L) _ := hE9.memr hv [1000, 1001, 1002, 1003] (by decide)
    clear hE9
    simp only [List.cons_append, List.nil_append] at hv
    go_wp2
    refine ret_cell21 Tryz.results7 rfl (read_row _ _ 28 #[.int .i64 st, .int .i64 pc, .slice sa sn sc, .slice ca cn cc, .int .u64 (wk : Nat), .int .i64 sk, .int .i64 er] (hv.vars.row (.tail _ (.head _))) 7 _ Tryz.underlying28 rfl infoT (by decide) rfl) rfl (read_row _ _ 32 (pg b q) (hv.vars.row (.head _)) 144 _ Tryz.underlying32 rfl infoPs (by decide) (size_pg _ _)) rfl rfl ⟨_, _, rfl, (hv.drop.drop.drop.drop).keepR (mem_two HSm.out HCm.out (fun y hy => hy))⟩
  · rw [h0] at kC0
    have kC : ∀ w', Rd w' 2 (.slice la ln lcap) (cellsI l) → Calls Tryz.prog 17 #[.slice la ln lcap] w' fun e w2 => e = .returned (.bool true) ∧ New w' w2 := kC0
    have g0 : decide (pc < 0) = false := decide_eq_false (by omega)
    have g1 : decide ((ln : Int) ≤ pc) = true := decide_eq_true (by omega)
    clear kC0 h0 h1 h2
    go_enter Tryz.func7, Tryz.ntmps7
    go_wp2_with (first
      | ((with_reducible refine at_box (T := 28) (dst := some 4) ?_); refine wl_newb rfl #[.int .i64 st, .int .i64 pc, .slice sa sn sc, .slice ca cn cc, .int .u64 (wk : Nat), .int .i64 sk, .int .i64 er] 28 (fun _ => rfl) ?_; intro b4 w2 hm2; replace hv := hv.madeAt hm2; clear hm2)
      | ((with_reducible refine at_box (T := 32) (dst := some 5) ?_); refine wl_newb rfl (pg b q) 32 (fun _ => rfl) ?_; intro b5 w2 hm2; replace hv := hv.madeAt hm2; clear hm2)
      | ((with_reducible refine at_alloc (T := 28) (dst := some 6) ?_); refine wl_newb rfl #[.int .i64 0, .int .i64 0, .slice none 0 0, .slice none 0 0, .int .u64 0, .int .i64 0, .int .i64 0] 28 (fun _ => rfl) ?_; intro b6 w2 hm2; replace hv := hv.madeAt hm2; clear hm2)
      | ((with_reducible refine at_alloc (T := 32) (dst := some 7) ?_); refine wl_newb rfl Tryz.zeroCells32 32 (fun _ => rfl) ?_; intro b7 w2 hm2; replace hv := hv.madeAt hm2; clear hm2)
      | (go_at_call 17; (with_reducible refine (kC _ (hv.rd HLm.out)).mono ?_); rintro e w1 ⟨rfl, hn1⟩; replace hv := hv.new hn1; clear hn1)
      | ((with_reducible refine at_load (T := 3) ?_); refine wl_ldc rfl _ _ rfl _ (hv.vars.row (by first | exact .head _ | exact .tail _ (.head _) | exact .tail _ (.tail _ (.head _)) | exact .tail _ (.tail _ (.tail _ (.head _))) | exact .tail _ (.tail _ (.tail _ (.tail _ (.head _)))) | exact .tail _ (.tail _ (.tail _ (.tail _ (.tail _ (.head _))))) | exact .tail _ (.tail _ (.tail _ (.tail _ (.tail _ (.tail _ (.head _)))))) | exact .tail _ (.tail _ (.tail _ (.tail _ (.tail _ (.tail _ (.tail _ (.head _))))))))) _ Tryz.underlying3 rfl _ rfl ?_)
      | ((with_reducible refine at_load (T := 23) ?_); refine wl_ldc rfl _ _ rfl _ (hv.vars.row (by first | exact .head _ | exact .tail _ (.head _) | exact .tail _ (.tail _ (.head _)) | exact .tail _ (.tail _ (.tail _ (.head _))) | exact .tail _ (.tail _ (.tail _ (.tail _ (.head _)))) | exact .tail _ (.tail _ (.tail _ (.tail _ (.tail _ (.head _))))) | exact .tail _ (.tail _ (.tail _ (.tail _ (.tail _ (.tail _ (.head _)))))) | exact .tail _ (.tail _ (.tail _ (.tail _ (.tail _ (.tail _ (.tail _ (.head _))))))))) _ Tryz.underlying23 rfl _ rfl ?_)
      | ((with_reducible refine at_load (T := 24) ?_); refine wl_ldc rfl _ _ rfl _ (hv.vars.row (by first | exact .head _ | exact .tail _ (.head _) | exact .tail _ (.tail _ (.head _)) | exact .tail _ (.tail _ (.tail _ (.head _))) | exact .tail _ (.tail _ (.tail _ (.tail _ (.head _)))) | exact .tail _ (.tail _ (.tail _ (.tail _ (.tail _ (.head _))))) | exact .tail _ (.tail _ (.tail _ (.tail _ (.tail _ (.tail _ (.head _)))))) | exact .tail _ (.tail _ (.tail _ (.tail _ (.tail _ (.tail _ (.tail _ (.head _))))))))) _ Tryz.underlying24 rfl _ rfl ?_))
    refine Any.wp_region_walk [⟨[1003], none⟩, ⟨[1002], none⟩, ⟨[1001], some 1001⟩, ⟨[1000], some 1000⟩, ⟨[], none⟩] [.val, .val, .put, .put, .val] (by kernel_rfl) (by kernel_rfl) (hv.vars.keep (List.sublist_append_left [(b7, Tryz.zeroCells32), (b6, #[.int .i64 0, .int .i64 0, .slice none 0 0, .slice none 0 0, .int .u64 0, .int .i64 0, .int .i64 0]), (b5, pg b q), (b4, #[.int .i64 st, .int .i64 pc, .slice sa sn sc, .slice ca cn cc, .int .u64 (wk : Nat), .int .i64 sk, .int .i64 er])] L)) ?_
    simp only [List.length_cons, List.length_nil, Nat.zero_add, Any.someVals]
    iterate 5 apply Exists.intro
    repeat (first
      | (refine Any.E_off rfl ?_; simp only [Act.put, List.setIfInBounds_toArray, List.set_cons_succ, List.set_cons_zero])
      | (apply Any.E_pureq rfl rfl rfl
         case h => intro K hK; go_big_quiet_op; (refine hK _ ?_; rfl)
         case hr => exact fun _ => rfl
         simp only [Act.put, List.setIfInBounds_toArray, List.set_cons_succ, List.set_cons_zero])
      | (apply Any.E_val rfl rfl rfl rfl
         case h =>
           intro E' hA K hK
           first
             | ((with_reducible refine Any.at_qload (T := 28) ?_); refine Any.q_ldv 1003 hA (by decide) rfl rfl 7 _ Tryz.underlying28 rfl infoT (by decide) rfl ?_; refine hK _ ?_; rfl)
             | ((with_reducible refine Any.at_qload (T := 32) ?_); refine Any.q_ldv 1002 hA (by decide) rfl rfl 144 _ Tryz.underlying32 rfl infoPs (by decide) (size_pg _ _) ?_; refine hK _ ?_; rfl)
             | (go_big_quiet_op; first
               | (refine hK _ ?_; rfl)
               | (refine ⟨_, fun _ _ => rfl, ?_⟩; refine hK _ ?_; rfl)
               | (apply Exists.intro; refine ⟨fun w1 hw1 => ?_, ?_⟩; · (first
                   | fail)
                  refine hK _ ?_; rfl))
         case hD => rfl
         simp only [Act.put, List.setIfInBounds_toArray, List.set_cons_succ, List.set_cons_zero])
      | ((with_reducible refine Any.at_ealloc ?_); refine Any.E_lay rfl rfl rfl (fun _ => rfl) ?_; intro B; simp only [Act.put, List.setIfInBounds_toArray, List.set_cons_succ, List.set_cons_zero])
      | ((with_reducible refine Any.at_estore (T := 28) ?_); refine Any.E_putv (T := 28) rfl rfl rfl rfl rfl rfl 7 infoT rfl rfl (by simp [Value.oneCell']) ?_; simp only [Act.put, List.setIfInBounds_toArray, List.set_cons_succ, List.set_cons_zero])
      | ((with_reducible refine Any.at_estore (T := 32) ?_); refine Any.E_putv (T := 32) rfl rfl rfl rfl rfl rfl 144 infoPs (size_pg _ _) (by rw [zeroPs, size_pg]) (one_pg _ _) ?_; simp only [Act.put, List.setIfInBounds_toArray, List.set_cons_succ, List.set_cons_zero]))
    try any_goals exact undef
    refine Any.E_nil ?_
    intro w9 hE9
    replace hv : Mem w0 w9 ([(b7, (pg b q)), (b6, #[.int .i64 st, .int .i64 pc, .slice sa sn sc, .slice ca cn cc, .int .u64 (wk : Nat), .int .i64 sk, .int .i64 er]), (b5, pg b q), (b4, #[.int .i64 st, .int .i64 pc, .slice sa sn sc, .slice ca cn cc, .int .u64 (wk : Nat), .int .i64 sk, .int .i64 er])] ++ L) _ := hE9.memr hv [1000, 1001, 1002, 1003] (by decide)
    clear hE9
    simp only [List.cons_append, List.nil_append] at hv
    go_wp2
    refine ret_cell21 Tryz.results7 rfl (read_row _ _ 28 #[.int .i64 st, .int .i64 pc, .slice sa sn sc, .slice ca cn cc, .int .u64 (wk : Nat), .int .i64 sk, .int .i64 er] (hv.vars.row (.tail _ (.head _))) 7 _ Tryz.underlying28 rfl infoT (by decide) rfl) rfl (read_row _ _ 32 (pg b q) (hv.vars.row (.head _)) 144 _ Tryz.underlying32 rfl infoPs (by decide) (size_pg _ _)) rfl rfl ⟨_, _, rfl, (hv.drop.drop.drop.drop).keepR (mem_two HSm.out HCm.out (fun y hy => hy))⟩
  · rw [h0] at kC0
    have kC : ∀ w', Rd w' 2 (.slice la ln lcap) (cellsI l) → Calls Tryz.prog 17 #[.slice la ln lcap] w' fun e w2 => e = .returned (.bool true) ∧ New w' w2 := kC0
    have g0 : decide (pc < 0) = false := decide_eq_false (by omega)
    have g1 : decide ((ln : Int) ≤ pc) = false := decide_eq_false (by omega)
    have g2 : decide ((32 : Int) < (sn : Int)) = true := decide_eq_true (by omega)
    clear kC0 h0 h1 h2 h3
    go_enter Tryz.func7, Tryz.ntmps7
    go_wp2_with (first
      | ((with_reducible refine at_box (T := 28) (dst := some 4) ?_); refine wl_newb rfl #[.int .i64 st, .int .i64 pc, .slice sa sn sc, .slice ca cn cc, .int .u64 (wk : Nat), .int .i64 sk, .int .i64 er] 28 (fun _ => rfl) ?_; intro b4 w2 hm2; replace hv := hv.madeAt hm2; clear hm2)
      | ((with_reducible refine at_box (T := 32) (dst := some 5) ?_); refine wl_newb rfl (pg b q) 32 (fun _ => rfl) ?_; intro b5 w2 hm2; replace hv := hv.madeAt hm2; clear hm2)
      | ((with_reducible refine at_alloc (T := 28) (dst := some 6) ?_); refine wl_newb rfl #[.int .i64 0, .int .i64 0, .slice none 0 0, .slice none 0 0, .int .u64 0, .int .i64 0, .int .i64 0] 28 (fun _ => rfl) ?_; intro b6 w2 hm2; replace hv := hv.madeAt hm2; clear hm2)
      | ((with_reducible refine at_alloc (T := 32) (dst := some 7) ?_); refine wl_newb rfl Tryz.zeroCells32 32 (fun _ => rfl) ?_; intro b7 w2 hm2; replace hv := hv.madeAt hm2; clear hm2)
      | (go_at_call 17; (with_reducible refine (kC _ (hv.rd HLm.out)).mono ?_); rintro e w1 ⟨rfl, hn1⟩; replace hv := hv.new hn1; clear hn1)
      | ((with_reducible refine at_load (T := 3) ?_); refine wl_ldc rfl _ _ rfl _ (hv.vars.row (by first | exact .head _ | exact .tail _ (.head _) | exact .tail _ (.tail _ (.head _)) | exact .tail _ (.tail _ (.tail _ (.head _))) | exact .tail _ (.tail _ (.tail _ (.tail _ (.head _)))) | exact .tail _ (.tail _ (.tail _ (.tail _ (.tail _ (.head _))))) | exact .tail _ (.tail _ (.tail _ (.tail _ (.tail _ (.tail _ (.head _)))))) | exact .tail _ (.tail _ (.tail _ (.tail _ (.tail _ (.tail _ (.tail _ (.head _))))))))) _ Tryz.underlying3 rfl _ rfl ?_)
      | ((with_reducible refine at_load (T := 23) ?_); refine wl_ldc rfl _ _ rfl _ (hv.vars.row (by first | exact .head _ | exact .tail _ (.head _) | exact .tail _ (.tail _ (.head _)) | exact .tail _ (.tail _ (.tail _ (.head _))) | exact .tail _ (.tail _ (.tail _ (.tail _ (.head _)))) | exact .tail _ (.tail _ (.tail _ (.tail _ (.tail _ (.head _))))) | exact .tail _ (.tail _ (.tail _ (.tail _ (.tail _ (.tail _ (.head _)))))) | exact .tail _ (.tail _ (.tail _ (.tail _ (.tail _ (.tail _ (.tail _ (.head _))))))))) _ Tryz.underlying23 rfl _ rfl ?_)
      | ((with_reducible refine at_load (T := 24) ?_); refine wl_ldc rfl _ _ rfl _ (hv.vars.row (by first | exact .head _ | exact .tail _ (.head _) | exact .tail _ (.tail _ (.head _)) | exact .tail _ (.tail _ (.tail _ (.head _))) | exact .tail _ (.tail _ (.tail _ (.tail _ (.head _)))) | exact .tail _ (.tail _ (.tail _ (.tail _ (.tail _ (.head _))))) | exact .tail _ (.tail _ (.tail _ (.tail _ (.tail _ (.tail _ (.head _)))))) | exact .tail _ (.tail _ (.tail _ (.tail _ (.tail _ (.tail _ (.tail _ (.head _))))))))) _ Tryz.underlying24 rfl _ rfl ?_))
    refine Any.wp_region_walk [⟨[1003], none⟩, ⟨[1002], none⟩, ⟨[1001], some 1001⟩, ⟨[1000], some 1000⟩, ⟨[], none⟩] [.val, .val, .put, .put, .val] (by kernel_rfl) (by kernel_rfl) (hv.vars.keep (List.sublist_append_left [(b7, Tryz.zeroCells32), (b6, #[.int .i64 0, .int .i64 0, .slice none 0 0, .slice none 0 0, .int .u64 0, .int .i64 0, .int .i64 0]), (b5, pg b q), (b4, #[.int .i64 st, .int .i64 pc, .slice sa sn sc, .slice ca cn cc, .int .u64 (wk : Nat), .int .i64 sk, .int .i64 er])] L)) ?_
    simp only [List.length_cons, List.length_nil, Nat.zero_add, Any.someVals]
    iterate 5 apply Exists.intro
    repeat (first
      | (refine Any.E_off rfl ?_; simp only [Act.put, List.setIfInBounds_toArray, List.set_cons_succ, List.set_cons_zero])
      | (apply Any.E_pureq rfl rfl rfl
         case h => intro K hK; go_big_quiet_op; (refine hK _ ?_; rfl)
         case hr => exact fun _ => rfl
         simp only [Act.put, List.setIfInBounds_toArray, List.set_cons_succ, List.set_cons_zero])
      | (apply Any.E_val rfl rfl rfl rfl
         case h =>
           intro E' hA K hK
           first
             | ((with_reducible refine Any.at_qload (T := 28) ?_); refine Any.q_ldv 1003 hA (by decide) rfl rfl 7 _ Tryz.underlying28 rfl infoT (by decide) rfl ?_; refine hK _ ?_; rfl)
             | ((with_reducible refine Any.at_qload (T := 32) ?_); refine Any.q_ldv 1002 hA (by decide) rfl rfl 144 _ Tryz.underlying32 rfl infoPs (by decide) (size_pg _ _) ?_; refine hK _ ?_; rfl)
             | (go_big_quiet_op; first
               | (refine hK _ ?_; rfl)
               | (refine ⟨_, fun _ _ => rfl, ?_⟩; refine hK _ ?_; rfl)
               | (apply Exists.intro; refine ⟨fun w1 hw1 => ?_, ?_⟩; · (first
                   | fail)
                  refine hK _ ?_; rfl))
         case hD => rfl
         simp only [Act.put, List.setIfInBounds_toArray, List.set_cons_succ, List.set_cons_zero])
      | ((with_reducible refine Any.at_ealloc ?_); refine Any.E_lay rfl rfl rfl (fun _ => rfl) ?_; intro B; simp only [Act.put, List.setIfInBounds_toArray, List.set_cons_succ, List.set_cons_zero])
      | ((with_reducible refine Any.at_estore (T := 28) ?_); refine Any.E_putv (T := 28) rfl rfl rfl rfl rfl rfl 7 infoT rfl rfl (by simp [Value.oneCell']) ?_; simp only [Act.put, List.setIfInBounds_toArray, List.set_cons_succ, List.set_cons_zero])
      | ((with_reducible refine Any.at_estore (T := 32) ?_); refine Any.E_putv (T := 32) rfl rfl rfl rfl rfl rfl 144 infoPs (size_pg _ _) (by rw [zeroPs, size_pg]) (one_pg _ _) ?_; simp only [Act.put, List.setIfInBounds_toArray, List.set_cons_succ, List.set_cons_zero]))
    try any_goals exact undef
    refine Any.E_nil ?_
    intro w9 hE9
    replace hv : Mem w0 w9 ([(b7, (pg b q)), (b6, #[.int .i64 st, .int .i64 pc, .slice sa sn sc, .slice ca cn cc, .int .u64 (wk : Nat), .int .i64 sk, .int .i64 er]), (b5, pg b q), (b4, #[.int .i64 st, .int .i64 pc, .slice sa sn sc, .slice ca cn cc, .int .u64 (wk : Nat), .int .i64 sk, .int .i64 er])] ++ L) _ := hE9.memr hv [1000, 1001, 1002, 1003] (by decide)
    clear hE9
    simp only [List.cons_append, List.nil_append] at hv
    go_wp2
    refine ret_cell21 Tryz.results7 rfl (read_row _ _ 28 #[.int .i64 st, .int .i64 pc, .slice sa sn sc, .slice ca cn cc, .int .u64 (wk : Nat), .int .i64 sk, .int .i64 er] (hv.vars.row (.tail _ (.head _))) 7 _ Tryz.underlying28 rfl infoT (by decide) rfl) rfl (read_row _ _ 32 (pg b q) (hv.vars.row (.head _)) 144 _ Tryz.underlying32 rfl infoPs (by decide) (size_pg _ _)) rfl rfl ⟨_, _, rfl, (hv.drop.drop.drop.drop).keepR (mem_two HSm.out HCm.out (fun y hy => hy))⟩
  · rw [h0] at kC0
    have kC : ∀ w', Rd w' 2 (.slice la ln lcap) (cellsI l) → Calls Tryz.prog 17 #[.slice la ln lcap] w' fun e w2 => e = .returned (.bool true) ∧ New w' w2 := kC0
    have g0 : decide (pc < 0) = false := decide_eq_false (by omega)
    have g1 : decide ((ln : Int) ≤ pc) = false := decide_eq_false (by omega)
    have g2 : decide ((32 : Int) < (sn : Int)) = false := decide_eq_false (by omega)
    have g3 : decide ((16 : Int) < (cn : Int)) = true := decide_eq_true (by omega)
    clear kC0 h0 h1 h2 h3 h4
    go_enter Tryz.func7, Tryz.ntmps7
    go_wp2_with (first
      | ((with_reducible refine at_box (T := 28) (dst := some 4) ?_); refine wl_newb rfl #[.int .i64 st, .int .i64 pc, .slice sa sn sc, .slice ca cn cc, .int .u64 (wk : Nat), .int .i64 sk, .int .i64 er] 28 (fun _ => rfl) ?_; intro b4 w2 hm2; replace hv := hv.madeAt hm2; clear hm2)
      | ((with_reducible refine at_box (T := 32) (dst := some 5) ?_); refine wl_newb rfl (pg b q) 32 (fun _ => rfl) ?_; intro b5 w2 hm2; replace hv := hv.madeAt hm2; clear hm2)
      | ((with_reducible refine at_alloc (T := 28) (dst := some 6) ?_); refine wl_newb rfl #[.int .i64 0, .int .i64 0, .slice none 0 0, .slice none 0 0, .int .u64 0, .int .i64 0, .int .i64 0] 28 (fun _ => rfl) ?_; intro b6 w2 hm2; replace hv := hv.madeAt hm2; clear hm2)
      | ((with_reducible refine at_alloc (T := 32) (dst := some 7) ?_); refine wl_newb rfl Tryz.zeroCells32 32 (fun _ => rfl) ?_; intro b7 w2 hm2; replace hv := hv.madeAt hm2; clear hm2)
      | (go_at_call 17; (with_reducible refine (kC _ (hv.rd HLm.out)).mono ?_); rintro e w1 ⟨rfl, hn1⟩; replace hv := hv.new hn1; clear hn1)
      | ((with_reducible refine at_load (T := 3) ?_); refine wl_ldc rfl _ _ rfl _ (hv.vars.row (by first | exact .head _ | exact .tail _ (.head _) | exact .tail _ (.tail _ (.head _)) | exact .tail _ (.tail _ (.tail _ (.head _))) | exact .tail _ (.tail _ (.tail _ (.tail _ (.head _)))) | exact .tail _ (.tail _ (.tail _ (.tail _ (.tail _ (.head _))))) | exact .tail _ (.tail _ (.tail _ (.tail _ (.tail _ (.tail _ (.head _)))))) | exact .tail _ (.tail _ (.tail _ (.tail _ (.tail _ (.tail _ (.tail _ (.head _))))))))) _ Tryz.underlying3 rfl _ rfl ?_)
      | ((with_reducible refine at_load (T := 23) ?_); refine wl_ldc rfl _ _ rfl _ (hv.vars.row (by first | exact .head _ | exact .tail _ (.head _) | exact .tail _ (.tail _ (.head _)) | exact .tail _ (.tail _ (.tail _ (.head _))) | exact .tail _ (.tail _ (.tail _ (.tail _ (.head _)))) | exact .tail _ (.tail _ (.tail _ (.tail _ (.tail _ (.head _))))) | exact .tail _ (.tail _ (.tail _ (.tail _ (.tail _ (.tail _ (.head _)))))) | exact .tail _ (.tail _ (.tail _ (.tail _ (.tail _ (.tail _ (.tail _ (.head _))))))))) _ Tryz.underlying23 rfl _ rfl ?_)
      | ((with_reducible refine at_load (T := 24) ?_); refine wl_ldc rfl _ _ rfl _ (hv.vars.row (by first | exact .head _ | exact .tail _ (.head _) | exact .tail _ (.tail _ (.head _)) | exact .tail _ (.tail _ (.tail _ (.head _))) | exact .tail _ (.tail _ (.tail _ (.tail _ (.head _)))) | exact .tail _ (.tail _ (.tail _ (.tail _ (.tail _ (.head _))))) | exact .tail _ (.tail _ (.tail _ (.tail _ (.tail _ (.tail _ (.head _)))))) | exact .tail _ (.tail _ (.tail _ (.tail _ (.tail _ (.tail _ (.tail _ (.head _))))))))) _ Tryz.underlying24 rfl _ rfl ?_))
    refine Any.wp_region_walk [⟨[1003], none⟩, ⟨[1002], none⟩, ⟨[1001], some 1001⟩, ⟨[1000], some 1000⟩, ⟨[], none⟩] [.val, .val, .put, .put, .val] (by kernel_rfl) (by kernel_rfl) (hv.vars.keep (List.sublist_append_left [(b7, Tryz.zeroCells32), (b6, #[.int .i64 0, .int .i64 0, .slice none 0 0, .slice none 0 0, .int .u64 0, .int .i64 0, .int .i64 0]), (b5, pg b q), (b4, #[.int .i64 st, .int .i64 pc, .slice sa sn sc, .slice ca cn cc, .int .u64 (wk : Nat), .int .i64 sk, .int .i64 er])] L)) ?_
    simp only [List.length_cons, List.length_nil, Nat.zero_add, Any.someVals]
    iterate 5 apply Exists.intro
    repeat (first
      | (refine Any.E_off rfl ?_; simp only [Act.put, List.setIfInBounds_toArray, List.set_cons_succ, List.set_cons_zero])
      | (apply Any.E_pureq rfl rfl rfl
         case h => intro K hK; go_big_quiet_op; (refine hK _ ?_; rfl)
         case hr => exact fun _ => rfl
         simp only [Act.put, List.setIfInBounds_toArray, List.set_cons_succ, List.set_cons_zero])
      | (apply Any.E_val rfl rfl rfl rfl
         case h =>
           intro E' hA K hK
           first
             | ((with_reducible refine Any.at_qload (T := 28) ?_); refine Any.q_ldv 1003 hA (by decide) rfl rfl 7 _ Tryz.underlying28 rfl infoT (by decide) rfl ?_; refine hK _ ?_; rfl)
             | ((with_reducible refine Any.at_qload (T := 32) ?_); refine Any.q_ldv 1002 hA (by decide) rfl rfl 144 _ Tryz.underlying32 rfl infoPs (by decide) (size_pg _ _) ?_; refine hK _ ?_; rfl)
             | (go_big_quiet_op; first
               | (refine hK _ ?_; rfl)
               | (refine ⟨_, fun _ _ => rfl, ?_⟩; refine hK _ ?_; rfl)
               | (apply Exists.intro; refine ⟨fun w1 hw1 => ?_, ?_⟩; · (first
                   | fail)
                  refine hK _ ?_; rfl))
         case hD => rfl
         simp only [Act.put, List.setIfInBounds_toArray, List.set_cons_succ, List.set_cons_zero])
      | ((with_reducible refine Any.at_ealloc ?_); refine Any.E_lay rfl rfl rfl (fun _ => rfl) ?_; intro B; simp only [Act.put, List.setIfInBounds_toArray, List.set_cons_succ, List.set_cons_zero])
      | ((with_reducible refine Any.at_estore (T := 28) ?_); refine Any.E_putv (T := 28) rfl rfl rfl rfl rfl rfl 7 infoT rfl rfl (by simp [Value.oneCell']) ?_; simp only [Act.put, List.setIfInBounds_toArray, List.set_cons_succ, List.set_cons_zero])
      | ((with_reducible refine Any.at_estore (T := 32) ?_); refine Any.E_putv (T := 32) rfl rfl rfl rfl rfl rfl 144 infoPs (size_pg _ _) (by rw [zeroPs, size_pg]) (one_pg _ _) ?_; simp only [Act.put, List.setIfInBounds_toArray, List.set_cons_succ, List.set_cons_zero]))
    try any_goals exact undef
    refine Any.E_nil ?_
    intro w9 hE9
    replace hv : Mem w0 w9 ([(b7, (pg b q)), (b6, #[.int .i64 st, .int .i64 pc, .slice sa sn sc, .slice ca cn cc, .int .u64 (wk : Nat), .int .i64 sk, .int .i64 er]), (b5, pg b q), (b4, #[.int .i64 st, .int .i64 pc, .slice sa sn sc, .slice ca cn cc, .int .u64 (wk : Nat), .int .i64 sk, .int .i64 er])] ++ L) _ := hE9.memr hv [1000, 1001, 1002, 1003] (by decide)
    clear hE9
    simp only [List.cons_append, List.nil_append] at hv
    go_wp2
    refine ret_cell21 Tryz.results7 rfl (read_row _ _ 28 #[.int .i64 st, .int .i64 pc, .slice sa sn sc, .slice ca cn cc, .int .u64 (wk : Nat), .int .i64 sk, .int .i64 er] (hv.vars.row (.tail _ (.head _))) 7 _ Tryz.underlying28 rfl infoT (by decide) rfl) rfl (read_row _ _ 32 (pg b q) (hv.vars.row (.head _)) 144 _ Tryz.underlying32 rfl infoPs (by decide) (size_pg _ _)) rfl rfl ⟨_, _, rfl, (hv.drop.drop.drop.drop).keepR (mem_two HSm.out HCm.out (fun y hy => hy))⟩
set_option maxRecDepth 100000 in
set_option maxHeartbeats 4000000 in
theorem rdo_moveE (st sk er : Int) (p : Nat) (wk : Nat) (sa ca : Option Addr) (sn sc cn cc : Nat) (S : List Nat) (C : List Int) (lb lo ln lcap : Nat) (l : List Cd.Inst) (op : Int) (arg : Nat) (b : Nat → Bool) (q : Nat → Nat → Nat) (w0 w : World) (L : List (Nat × Array Value)) (R : List (Nat × Value × List Value)) (hv0 : Mem w0 w L R) (hl : (2, .slice (some ⟨lb, lo, none⟩) ln lcap, cellsI l) ∈ R) (hs : (1, .slice sa sn sc, cellsU S) ∈ R) (hc : (1, .slice ca cn cc, cellsN C) ∈ R) (hp : p < ln) (hp2 : p < 200) (hs32 : sn ≤ 32) (hc16 : cn ≤ 16) (hi : ((cellsI l).drop (p * 2)).take 2 = [.int .i64 op, .int .u64 (arg : Nat)]) (kC : ∀ w', Rd w' 2 (.slice (some ⟨lb, lo, none⟩) ln lcap) (cellsI l) → Calls Tryz.prog 17 #[.slice (some ⟨lb, lo, none⟩) ln lcap] w' fun e w2 => e = .returned (.bool true) ∧ New w' w2) (pc' : Int) (C' : List Int) (n : Int) (hn : n ≠ 0) (kG : ∀ w' L', Mem w0 w' L' R → Calls Tryz.prog 18 #[.agg #[.int .i64 op, .int .u64 (arg : Nat)], .agg #[.int .i64 st, .int .i64 (p : Int), .slice sa sn sc, .slice ca cn cc, .int .u64 (wk : Nat), .int .i64 sk, .int .i64 er]] w' (GoesR w0 L' R st sk er wk (.slice sa sn sc) pc' C' n)) :
    Calls Tryz.prog 7 #[.slice (some ⟨lb, lo, none⟩) ln lcap, .agg #[.int .i64 st, .int .i64 (p : Int), .slice sa sn sc, .slice ca cn cc, .int .u64 (wk : Nat), .int .i64 sk, .int .i64 er], .agg (pg b q)] w (DoA w0 L R b (⟨st, (p : Int), S, C, wk, sk, er⟩, q, n)) := by
  have hv := hv0
  have HLm := Lib.hid hl
  have HSm := Lib.hid hs
  have HCm := Lib.hid hc
  have HI := Lib.hid hi
  have g0 : decide ((p : Int) < 0) = false := decide_eq_false (by omega)
  have g0n : ¬ (p : Int) < 0 := by omega
  have g1 : decide ((ln : Int) ≤ (p : Int)) = false := decide_eq_false (by omega)
  have g1n : ¬ ln ≤ p := by omega
  have g2 : decide ((32 : Int) < (sn : Int)) = false := decide_eq_false (by omega)
  have g3 : decide ((16 : Int) < (cn : Int)) = false := decide_eq_false (by omega)
  have hpl : (p : Int) < (ln : Int) := by omega
  have qp : IntKind.i64.wrap ((p : Int) + 1) = (p : Int) + 1 := IntWalk.i64_in _ (by omega)
  clear hl hs hc hv0 hi hs32 hc16 hp
  have gn : (n != 0) = true := bne_iff_ne.2 hn
  have gn2 : (n == 0) = false := beq_eq_false_iff_ne.2 hn
  clear hn
  go_enter Tryz.func7, Tryz.ntmps7
  go_wp2_with (first
    | ((with_reducible refine at_box (T := 28) (dst := some 4) ?_); refine wl_newb rfl #[.int .i64 st, .int .i64 (p : Int), .slice sa sn sc, .slice ca cn cc, .int .u64 (wk : Nat), .int .i64 sk, .int .i64 er] 28 (fun _ => rfl) ?_; intro b4 w2 hm2; replace hv := hv.madeAt hm2; clear hm2)
    | ((with_reducible refine at_box (T := 32) (dst := some 5) ?_); refine wl_newb rfl (pg b q) 32 (fun _ => rfl) ?_; intro b5 w2 hm2; replace hv := hv.madeAt hm2; clear hm2)
    | ((with_reducible refine at_alloc (T := 28) (dst := some 6) ?_); refine wl_newb rfl #[.int .i64 0, .int .i64 0, .slice none 0 0, .slice none 0 0, .int .u64 0, .int .i64 0, .int .i64 0] 28 (fun _ => rfl) ?_; intro b6 w2 hm2; replace hv := hv.madeAt hm2; clear hm2)
    | ((with_reducible refine at_alloc (T := 32) (dst := some 7) ?_); refine wl_newb rfl Tryz.zeroCells32 32 (fun _ => rfl) ?_; intro b7 w2 hm2; replace hv := hv.madeAt hm2; clear hm2)
    | (go_at_call 17; (with_reducible refine (kC _ (hv.rd HLm.out)).mono ?_); rintro e w1 ⟨rfl, hn1⟩; replace hv := hv.new hn1; clear hn1)
    | ((with_reducible refine at_load (T := 3) ?_); refine wl_ldc rfl _ _ rfl _ (hv.vars.row (by first | exact .head _ | exact .tail _ (.head _) | exact .tail _ (.tail _ (.head _)) | exact .tail _ (.tail _ (.tail _ (.head _))) | exact .tail _ (.tail _ (.tail _ (.tail _ (.head _)))) | exact .tail _ (.tail _ (.tail _ (.tail _ (.tail _ (.head _))))) | exact .tail _ (.tail _ (.tail _ (.tail _ (.tail _ (.tail _ (.head _)))))) | exact .tail _ (.tail _ (.tail _ (.tail _ (.tail _ (.tail _ (.tail _ (.head _))))))))) _ Tryz.underlying3 rfl _ rfl ?_)
    | ((with_reducible refine at_load (T := 23) ?_); refine wl_ldc rfl _ _ rfl _ (hv.vars.row (by first | exact .head _ | exact .tail _ (.head _) | exact .tail _ (.tail _ (.head _)) | exact .tail _ (.tail _ (.tail _ (.head _))) | exact .tail _ (.tail _ (.tail _ (.tail _ (.head _)))) | exact .tail _ (.tail _ (.tail _ (.tail _ (.tail _ (.head _))))) | exact .tail _ (.tail _ (.tail _ (.tail _ (.tail _ (.tail _ (.head _)))))) | exact .tail _ (.tail _ (.tail _ (.tail _ (.tail _ (.tail _ (.tail _ (.head _))))))))) _ Tryz.underlying23 rfl _ rfl ?_)
    | ((with_reducible refine at_load (T := 24) ?_); refine wl_ldc rfl _ _ rfl _ (hv.vars.row (by first | exact .head _ | exact .tail _ (.head _) | exact .tail _ (.tail _ (.head _)) | exact .tail _ (.tail _ (.tail _ (.head _))) | exact .tail _ (.tail _ (.tail _ (.tail _ (.head _)))) | exact .tail _ (.tail _ (.tail _ (.tail _ (.tail _ (.head _))))) | exact .tail _ (.tail _ (.tail _ (.tail _ (.tail _ (.tail _ (.head _)))))) | exact .tail _ (.tail _ (.tail _ (.tail _ (.tail _ (.tail _ (.tail _ (.head _))))))))) _ Tryz.underlying24 rfl _ rfl ?_)
    | ((with_reducible refine at_load (T := 48) ?_); refine wl_rdv rfl (hv.rd HLm.out) (p * 2) rfl 2 _ Tryz.underlying48 rfl infoI2 (by decide) #[.int .i64 op, .int .u64 (arg : Nat)] HI.out rfl ?_)
    | ((with_reducible refine at_alloc (T := 48) (dst := some 9) ?_); refine wl_newb rfl #[.int .i64 0, .int .u64 0] 48 (fun _ => rfl) ?_; intro b9 w2 hm2; replace hv := hv.madeAt hm2; clear hm2)
    | ((with_reducible refine at_store (T := 48) ?_); refine wl_stv rfl b9 rfl _ rfl _ (hv.vars.row (by first | exact .head _ | exact .tail _ (.head _) | exact .tail _ (.tail _ (.head _)) | exact .tail _ (.tail _ (.tail _ (.head _))) | exact .tail _ (.tail _ (.tail _ (.tail _ (.head _)))) | exact .tail _ (.tail _ (.tail _ (.tail _ (.tail _ (.head _))))) | exact .tail _ (.tail _ (.tail _ (.tail _ (.tail _ (.tail _ (.head _)))))) | exact .tail _ (.tail _ (.tail _ (.tail _ (.tail _ (.tail _ (.tail _ (.head _))))))))) (hv.vars.sft (by first | exact .head _ | exact .tail _ (.head _) | exact .tail _ (.tail _ (.head _)) | exact .tail _ (.tail _ (.tail _ (.head _))) | exact .tail _ (.tail _ (.tail _ (.tail _ (.head _)))) | exact .tail _ (.tail _ (.tail _ (.tail _ (.tail _ (.head _))))) | exact .tail _ (.tail _ (.tail _ (.tail _ (.tail _ (.tail _ (.head _)))))) | exact .tail _ (.tail _ (.tail _ (.tail _ (.tail _ (.tail _ (.tail _ (.head _))))))))) 2 infoI2 rfl rfl (by simp [Value.oneCell']) ?_; intro w2 hw2; (first | (replace hv := hv.set 0 rfl hw2) | (replace hv := hv.set 1 rfl hw2) | (replace hv := hv.set 2 rfl hw2) | (replace hv := hv.set 3 rfl hw2)); clear hw2; simp only [List.set] at hv)
    | ((with_reducible refine at_load (T := 48) ?_); refine wl_ldv rfl _ rfl _ (hv.vars.row (by first | exact .head _ | exact .tail _ (.head _) | exact .tail _ (.tail _ (.head _)) | exact .tail _ (.tail _ (.tail _ (.head _))) | exact .tail _ (.tail _ (.tail _ (.tail _ (.head _)))) | exact .tail _ (.tail _ (.tail _ (.tail _ (.tail _ (.head _))))) | exact .tail _ (.tail _ (.tail _ (.tail _ (.tail _ (.tail _ (.head _)))))) | exact .tail _ (.tail _ (.tail _ (.tail _ (.tail _ (.tail _ (.tail _ (.head _))))))))) 2 _ Tryz.underlying48 rfl infoI2 (by decide) rfl ?_)
    | ((with_reducible refine at_load (T := 28) ?_); refine wl_ldv rfl _ rfl _ (hv.vars.row (by first | exact .head _ | exact .tail _ (.head _) | exact .tail _ (.tail _ (.head _)) | exact .tail _ (.tail _ (.tail _ (.head _))) | exact .tail _ (.tail _ (.tail _ (.tail _ (.head _)))) | exact .tail _ (.tail _ (.tail _ (.tail _ (.tail _ (.head _))))) | exact .tail _ (.tail _ (.tail _ (.tail _ (.tail _ (.tail _ (.head _)))))) | exact .tail _ (.tail _ (.tail _ (.tail _ (.tail _ (.tail _ (.tail _ (.head _))))))))) 7 _ Tryz.underlying28 rfl infoT (by decide) rfl ?_)
    | ((with_reducible refine at_alloc (T := 28) (dst := some 10) ?_); refine wl_newb rfl #[.int .i64 0, .int .i64 0, .slice none 0 0, .slice none 0 0, .int .u64 0, .int .i64 0, .int .i64 0] 28 (fun _ => rfl) ?_; intro b10 w2 hm2; replace hv := hv.madeAt hm2; clear hm2)
    | ((with_reducible refine at_store (T := 28) ?_); refine wl_stv rfl b10 rfl _ rfl _ (hv.vars.row (by first | exact .head _ | exact .tail _ (.head _) | exact .tail _ (.tail _ (.head _)) | exact .tail _ (.tail _ (.tail _ (.head _))) | exact .tail _ (.tail _ (.tail _ (.tail _ (.head _)))) | exact .tail _ (.tail _ (.tail _ (.tail _ (.tail _ (.head _))))) | exact .tail _ (.tail _ (.tail _ (.tail _ (.tail _ (.tail _ (.head _)))))) | exact .tail _ (.tail _ (.tail _ (.tail _ (.tail _ (.tail _ (.tail _ (.head _))))))))) (hv.vars.sft (by first | exact .head _ | exact .tail _ (.head _) | exact .tail _ (.tail _ (.head _)) | exact .tail _ (.tail _ (.tail _ (.head _))) | exact .tail _ (.tail _ (.tail _ (.tail _ (.head _)))) | exact .tail _ (.tail _ (.tail _ (.tail _ (.tail _ (.head _))))) | exact .tail _ (.tail _ (.tail _ (.tail _ (.tail _ (.tail _ (.head _)))))) | exact .tail _ (.tail _ (.tail _ (.tail _ (.tail _ (.tail _ (.tail _ (.head _))))))))) 7 infoT rfl rfl (by simp [Value.oneCell']) ?_; intro w2 hw2; (first | (replace hv := hv.set 0 rfl hw2) | (replace hv := hv.set 1 rfl hw2) | (replace hv := hv.set 2 rfl hw2) | (replace hv := hv.set 3 rfl hw2)); clear hw2; simp only [List.set] at hv)
    | (go_at_call 18; (with_reducible refine (kG _ _ hv).mono ?_); rintro e w1 ⟨ra, rn, rcp, rfl, hv1⟩; replace hv := hv1; clear hv1))
  refine Any.wp_region_walk [⟨[1005], none⟩, ⟨[1004], none⟩, ⟨[], none⟩, ⟨[1003], some 1003⟩, ⟨[1002], some 1002⟩, ⟨[], none⟩] [.val, .val, .val, .put, .put, .val] (by kernel_rfl) (by kernel_rfl) (hv.vars.keep (List.sublist_append_left [(b10, #[.int .i64 st, .int .i64 pc', .slice sa sn sc, .slice ra rn rcp, .int .u64 (wk : Nat), .int .i64 sk, .int .i64 er]), (b9, #[.int .i64 op, .int .u64 (arg : Nat)]), (b7, Tryz.zeroCells32), (b6, #[.int .i64 0, .int .i64 0, .slice none 0 0, .slice none 0 0, .int .u64 0, .int .i64 0, .int .i64 0]), (b5, pg b q), (b4, #[.int .i64 st, .int .i64 (p : Int), .slice sa sn sc, .slice ca cn cc, .int .u64 (wk : Nat), .int .i64 sk, .int .i64 er])] L)) ?_
  simp only [List.length_cons, List.length_nil, Nat.zero_add, Any.someVals]
  iterate 6 apply Exists.intro
  repeat (first
    | (refine Any.E_off rfl ?_; simp only [Act.put, List.setIfInBounds_toArray, List.set_cons_succ, List.set_cons_zero])
    | (apply Any.E_pureq rfl rfl rfl
       case h => intro K hK; go_big_quiet_op; (refine hK _ ?_; rfl)
       case hr => exact fun _ => rfl
       simp only [Act.put, List.setIfInBounds_toArray, List.set_cons_succ, List.set_cons_zero])
    | (apply Any.E_val rfl rfl rfl rfl
       case h =>
         intro E' hA K hK
         first
           | ((with_reducible refine Any.at_qload (T := 28) ?_); refine Any.q_ldv 1005 hA (by decide) rfl rfl 7 _ Tryz.underlying28 rfl infoT (by decide) rfl ?_; refine hK _ ?_; rfl)
           | ((with_reducible refine Any.at_qload (T := 32) ?_); refine Any.q_ldv 1004 hA (by decide) rfl rfl 144 _ Tryz.underlying32 rfl infoPs (by decide) (size_pg _ _) ?_; refine hK _ ?_; rfl)
           | (go_big_quiet_op; first
             | (refine hK _ ?_; rfl)
             | (refine ⟨_, fun _ _ => rfl, ?_⟩; refine hK _ ?_; rfl)
             | (apply Exists.intro; refine ⟨fun w1 hw1 => ?_, ?_⟩; · (first
                 | fail)
                refine hK _ ?_; rfl))
       case hD => rfl
       simp only [Act.put, List.setIfInBounds_toArray, List.set_cons_succ, List.set_cons_zero])
    | ((with_reducible refine Any.at_ealloc ?_); refine Any.E_lay rfl rfl rfl (fun _ => rfl) ?_; intro B; simp only [Act.put, List.setIfInBounds_toArray, List.set_cons_succ, List.set_cons_zero])
    | ((with_reducible refine Any.at_estore (T := 28) ?_); refine Any.E_putv (T := 28) rfl rfl rfl rfl rfl rfl 7 infoT rfl rfl (by simp [Value.oneCell']) ?_; simp only [Act.put, List.setIfInBounds_toArray, List.set_cons_succ, List.set_cons_zero])
    | ((with_reducible refine Any.at_estore (T := 32) ?_); refine Any.E_putv (T := 32) rfl rfl rfl rfl rfl rfl 144 infoPs (size_pg _ _) (by rw [zeroPs, size_pg]) (one_pg _ _) ?_; simp only [Act.put, List.setIfInBounds_toArray, List.set_cons_succ, List.set_cons_zero]))
  try any_goals exact undef
  refine Any.E_nil ?_
  intro w9 hE9
  replace hv : Mem w0 w9 ([(b10, #[.int .i64 st, .int .i64 pc', .slice sa sn sc, .slice ra rn rcp, .int .u64 (wk : Nat), .int .i64 sk, .int .i64 er]), (b9, #[.int .i64 op, .int .u64 (arg : Nat)]), (b7, (pg b q)), (b6, #[.int .i64 st, .int .i64 (p : Int), .slice sa sn sc, .slice ca cn cc, .int .u64 (wk : Nat), .int .i64 sk, .int .i64 er]), (b5, pg b q), (b4, #[.int .i64 st, .int .i64 (p : Int), .slice sa sn sc, .slice ca cn cc, .int .u64 (wk : Nat), .int .i64 sk, .int .i64 er])] ++ L) _ := hE9.memr hv [1000, 1001, 1002, 1003, 1004, 1005] (by decide)
  clear hE9
  simp only [List.cons_append, List.nil_append] at hv
  go_wp2
  refine ret_cell21 Tryz.results7 rfl (read_row _ _ 28 #[.int .i64 st, .int .i64 (p : Int), .slice sa sn sc, .slice ca cn cc, .int .u64 (wk : Nat), .int .i64 sk, .int .i64 er] (hv.vars.row (.tail _ (.tail _ (.tail _ (.head _))))) 7 _ Tryz.underlying28 rfl infoT (by decide) rfl) rfl (read_row _ _ 32 (pg b q) (hv.vars.row (.tail _ (.tail _ (.head _)))) 144 _ Tryz.underlying32 rfl infoPs (by decide) (size_pg _ _)) rfl rfl ⟨_, _, rfl, (hv.drop.drop.drop.drop.drop.drop).keepR (mem_two (Mem.s HSm.out) (Mem.s HCm.out) (fun y hy => Mem.s hy))⟩
set_option maxRecDepth 100000 in
set_option maxHeartbeats 4000000 in
theorem rdo_moveO (st sk er : Int) (p : Nat) (wk : Nat) (sa ca : Option Addr) (sn sc cn cc : Nat) (S : List Nat) (C : List Int) (lb lo ln lcap : Nat) (l : List Cd.Inst) (op : Int) (arg : Nat) (b : Nat → Bool) (q : Nat → Nat → Nat) (w0 w : World) (L : List (Nat × Array Value)) (R : List (Nat × Value × List Value)) (hv0 : Mem w0 w L R) (hl : (2, .slice (some ⟨lb, lo, none⟩) ln lcap, cellsI l) ∈ R) (hs : (1, .slice sa sn sc, cellsU S) ∈ R) (hc : (1, .slice ca cn cc, cellsN C) ∈ R) (hp : p < ln) (hp2 : p < 200) (hs32 : sn ≤ 32) (hc16 : cn ≤ 16) (hi : ((cellsI l).drop (p * 2)).take 2 = [.int .i64 op, .int .u64 (arg : Nat)]) (kC : ∀ w', Rd w' 2 (.slice (some ⟨lb, lo, none⟩) ln lcap) (cellsI l) → Calls Tryz.prog 17 #[.slice (some ⟨lb, lo, none⟩) ln lcap] w' fun e w2 => e = .returned (.bool true) ∧ New w' w2) (pc' : Int) (C' : List Int) (kG : ∀ w' L', Mem w0 w' L' R → Calls Tryz.prog 18 #[.agg #[.int .i64 op, .int .u64 (arg : Nat)], .agg #[.int .i64 st, .int .i64 (p : Int), .slice sa sn sc, .slice ca cn cc, .int .u64 (wk : Nat), .int .i64 sk, .int .i64 er]] w' (GoesR w0 L' R st sk er wk (.slice sa sn sc) pc' C' 0)) :
    Calls Tryz.prog 7 #[.slice (some ⟨lb, lo, none⟩) ln lcap, .agg #[.int .i64 st, .int .i64 (p : Int), .slice sa sn sc, .slice ca cn cc, .int .u64 (wk : Nat), .int .i64 sk, .int .i64 er], .agg (pg b q)] w (DoA w0 L R b (⟨st, pc', S, C', wk, sk, er⟩, q, 0)) := by
  have hv := hv0
  have HLm := Lib.hid hl
  have HSm := Lib.hid hs
  have HCm := Lib.hid hc
  have HI := Lib.hid hi
  have g0 : decide ((p : Int) < 0) = false := decide_eq_false (by omega)
  have g0n : ¬ (p : Int) < 0 := by omega
  have g1 : decide ((ln : Int) ≤ (p : Int)) = false := decide_eq_false (by omega)
  have g1n : ¬ ln ≤ p := by omega
  have g2 : decide ((32 : Int) < (sn : Int)) = false := decide_eq_false (by omega)
  have g3 : decide ((16 : Int) < (cn : Int)) = false := decide_eq_false (by omega)
  have hpl : (p : Int) < (ln : Int) := by omega
  have qp : IntKind.i64.wrap ((p : Int) + 1) = (p : Int) + 1 := IntWalk.i64_in _ (by omega)
  clear hl hs hc hv0 hi hs32 hc16 hp
  go_enter Tryz.func7, Tryz.ntmps7
  go_wp2_with (first
    | ((with_reducible refine at_box (T := 28) (dst := some 4) ?_); refine wl_newb rfl #[.int .i64 st, .int .i64 (p : Int), .slice sa sn sc, .slice ca cn cc, .int .u64 (wk : Nat), .int .i64 sk, .int .i64 er] 28 (fun _ => rfl) ?_; intro b4 w2 hm2; replace hv := hv.madeAt hm2; clear hm2)
    | ((with_reducible refine at_box (T := 32) (dst := some 5) ?_); refine wl_newb rfl (pg b q) 32 (fun _ => rfl) ?_; intro b5 w2 hm2; replace hv := hv.madeAt hm2; clear hm2)
    | ((with_reducible refine at_alloc (T := 28) (dst := some 6) ?_); refine wl_newb rfl #[.int .i64 0, .int .i64 0, .slice none 0 0, .slice none 0 0, .int .u64 0, .int .i64 0, .int .i64 0] 28 (fun _ => rfl) ?_; intro b6 w2 hm2; replace hv := hv.madeAt hm2; clear hm2)
    | ((with_reducible refine at_alloc (T := 32) (dst := some 7) ?_); refine wl_newb rfl Tryz.zeroCells32 32 (fun _ => rfl) ?_; intro b7 w2 hm2; replace hv := hv.madeAt hm2; clear hm2)
    | (go_at_call 17; (with_reducible refine (kC _ (hv.rd HLm.out)).mono ?_); rintro e w1 ⟨rfl, hn1⟩; replace hv := hv.new hn1; clear hn1)
    | ((with_reducible refine at_load (T := 3) ?_); refine wl_ldc rfl _ _ rfl _ (hv.vars.row (by first | exact .head _ | exact .tail _ (.head _) | exact .tail _ (.tail _ (.head _)) | exact .tail _ (.tail _ (.tail _ (.head _))) | exact .tail _ (.tail _ (.tail _ (.tail _ (.head _)))) | exact .tail _ (.tail _ (.tail _ (.tail _ (.tail _ (.head _))))) | exact .tail _ (.tail _ (.tail _ (.tail _ (.tail _ (.tail _ (.head _)))))) | exact .tail _ (.tail _ (.tail _ (.tail _ (.tail _ (.tail _ (.tail _ (.head _))))))))) _ Tryz.underlying3 rfl _ rfl ?_)
    | ((with_reducible refine at_load (T := 23) ?_); refine wl_ldc rfl _ _ rfl _ (hv.vars.row (by first | exact .head _ | exact .tail _ (.head _) | exact .tail _ (.tail _ (.head _)) | exact .tail _ (.tail _ (.tail _ (.head _))) | exact .tail _ (.tail _ (.tail _ (.tail _ (.head _)))) | exact .tail _ (.tail _ (.tail _ (.tail _ (.tail _ (.head _))))) | exact .tail _ (.tail _ (.tail _ (.tail _ (.tail _ (.tail _ (.head _)))))) | exact .tail _ (.tail _ (.tail _ (.tail _ (.tail _ (.tail _ (.tail _ (.head _))))))))) _ Tryz.underlying23 rfl _ rfl ?_)
    | ((with_reducible refine at_load (T := 24) ?_); refine wl_ldc rfl _ _ rfl _ (hv.vars.row (by first | exact .head _ | exact .tail _ (.head _) | exact .tail _ (.tail _ (.head _)) | exact .tail _ (.tail _ (.tail _ (.head _))) | exact .tail _ (.tail _ (.tail _ (.tail _ (.head _)))) | exact .tail _ (.tail _ (.tail _ (.tail _ (.tail _ (.head _))))) | exact .tail _ (.tail _ (.tail _ (.tail _ (.tail _ (.tail _ (.head _)))))) | exact .tail _ (.tail _ (.tail _ (.tail _ (.tail _ (.tail _ (.tail _ (.head _))))))))) _ Tryz.underlying24 rfl _ rfl ?_)
    | ((with_reducible refine at_load (T := 48) ?_); refine wl_rdv rfl (hv.rd HLm.out) (p * 2) rfl 2 _ Tryz.underlying48 rfl infoI2 (by decide) #[.int .i64 op, .int .u64 (arg : Nat)] HI.out rfl ?_)
    | ((with_reducible refine at_alloc (T := 48) (dst := some 9) ?_); refine wl_newb rfl #[.int .i64 0, .int .u64 0] 48 (fun _ => rfl) ?_; intro b9 w2 hm2; replace hv := hv.madeAt hm2; clear hm2)
    | ((with_reducible refine at_store (T := 48) ?_); refine wl_stv rfl b9 rfl _ rfl _ (hv.vars.row (by first | exact .head _ | exact .tail _ (.head _) | exact .tail _ (.tail _ (.head _)) | exact .tail _ (.tail _ (.tail _ (.head _))) | exact .tail _ (.tail _ (.tail _ (.tail _ (.head _)))) | exact .tail _ (.tail _ (.tail _ (.tail _ (.tail _ (.head _))))) | exact .tail _ (.tail _ (.tail _ (.tail _ (.tail _ (.tail _ (.head _)))))) | exact .tail _ (.tail _ (.tail _ (.tail _ (.tail _ (.tail _ (.tail _ (.head _))))))))) (hv.vars.sft (by first | exact .head _ | exact .tail _ (.head _) | exact .tail _ (.tail _ (.head _)) | exact .tail _ (.tail _ (.tail _ (.head _))) | exact .tail _ (.tail _ (.tail _ (.tail _ (.head _)))) | exact .tail _ (.tail _ (.tail _ (.tail _ (.tail _ (.head _))))) | exact .tail _ (.tail _ (.tail _ (.tail _ (.tail _ (.tail _ (.head _)))))) | exact .tail _ (.tail _ (.tail _ (.tail _ (.tail _ (.tail _ (.tail _ (.head _))))))))) 2 infoI2 rfl rfl (by simp [Value.oneCell']) ?_; intro w2 hw2; (first | (replace hv := hv.set 0 rfl hw2) | (replace hv := hv.set 1 rfl hw2) | (replace hv := hv.set 2 rfl hw2) | (replace hv := hv.set 3 rfl hw2)); clear hw2; simp only [List.set] at hv)
    | ((with_reducible refine at_load (T := 48) ?_); refine wl_ldv rfl _ rfl _ (hv.vars.row (by first | exact .head _ | exact .tail _ (.head _) | exact .tail _ (.tail _ (.head _)) | exact .tail _ (.tail _ (.tail _ (.head _))) | exact .tail _ (.tail _ (.tail _ (.tail _ (.head _)))) | exact .tail _ (.tail _ (.tail _ (.tail _ (.tail _ (.head _))))) | exact .tail _ (.tail _ (.tail _ (.tail _ (.tail _ (.tail _ (.head _)))))) | exact .tail _ (.tail _ (.tail _ (.tail _ (.tail _ (.tail _ (.tail _ (.head _))))))))) 2 _ Tryz.underlying48 rfl infoI2 (by decide) rfl ?_)
    | ((with_reducible refine at_load (T := 28) ?_); refine wl_ldv rfl _ rfl _ (hv.vars.row (by first | exact .head _ | exact .tail _ (.head _) | exact .tail _ (.tail _ (.head _)) | exact .tail _ (.tail _ (.tail _ (.head _))) | exact .tail _ (.tail _ (.tail _ (.tail _ (.head _)))) | exact .tail _ (.tail _ (.tail _ (.tail _ (.tail _ (.head _))))) | exact .tail _ (.tail _ (.tail _ (.tail _ (.tail _ (.tail _ (.head _)))))) | exact .tail _ (.tail _ (.tail _ (.tail _ (.tail _ (.tail _ (.tail _ (.head _))))))))) 7 _ Tryz.underlying28 rfl infoT (by decide) rfl ?_)
    | ((with_reducible refine at_alloc (T := 28) (dst := some 10) ?_); refine wl_newb rfl #[.int .i64 0, .int .i64 0, .slice none 0 0, .slice none 0 0, .int .u64 0, .int .i64 0, .int .i64 0] 28 (fun _ => rfl) ?_; intro b10 w2 hm2; replace hv := hv.madeAt hm2; clear hm2)
    | ((with_reducible refine at_store (T := 28) ?_); refine wl_stv rfl b10 rfl _ rfl _ (hv.vars.row (by first | exact .head _ | exact .tail _ (.head _) | exact .tail _ (.tail _ (.head _)) | exact .tail _ (.tail _ (.tail _ (.head _))) | exact .tail _ (.tail _ (.tail _ (.tail _ (.head _)))) | exact .tail _ (.tail _ (.tail _ (.tail _ (.tail _ (.head _))))) | exact .tail _ (.tail _ (.tail _ (.tail _ (.tail _ (.tail _ (.head _)))))) | exact .tail _ (.tail _ (.tail _ (.tail _ (.tail _ (.tail _ (.tail _ (.head _))))))))) (hv.vars.sft (by first | exact .head _ | exact .tail _ (.head _) | exact .tail _ (.tail _ (.head _)) | exact .tail _ (.tail _ (.tail _ (.head _))) | exact .tail _ (.tail _ (.tail _ (.tail _ (.head _)))) | exact .tail _ (.tail _ (.tail _ (.tail _ (.tail _ (.head _))))) | exact .tail _ (.tail _ (.tail _ (.tail _ (.tail _ (.tail _ (.head _)))))) | exact .tail _ (.tail _ (.tail _ (.tail _ (.tail _ (.tail _ (.tail _ (.head _))))))))) 7 infoT rfl rfl (by simp [Value.oneCell']) ?_; intro w2 hw2; (first | (replace hv := hv.set 0 rfl hw2) | (replace hv := hv.set 1 rfl hw2) | (replace hv := hv.set 2 rfl hw2) | (replace hv := hv.set 3 rfl hw2)); clear hw2; simp only [List.set] at hv)
    | (go_at_call 18; (with_reducible refine (kG _ _ hv).mono ?_); rintro e w1 ⟨ra, rn, rcp, rfl, hv1⟩; replace hv := hv1; clear hv1))
  refine Any.wp_region_walk [⟨[1000], none⟩, ⟨[1004], none⟩, ⟨[1003], some 1003⟩, ⟨[1002], some 1002⟩, ⟨[], none⟩] [.val, .val, .put, .put, .val] (by kernel_rfl) (by kernel_rfl) (hv.vars.keep (List.sublist_append_left [(b10, #[.int .i64 st, .int .i64 pc', .slice sa sn sc, .slice ra rn rcp, .int .u64 (wk : Nat), .int .i64 sk, .int .i64 er]), (b9, #[.int .i64 op, .int .u64 (arg : Nat)]), (b7, Tryz.zeroCells32), (b6, #[.int .i64 0, .int .i64 0, .slice none 0 0, .slice none 0 0, .int .u64 0, .int .i64 0, .int .i64 0]), (b5, pg b q), (b4, #[.int .i64 st, .int .i64 (p : Int), .slice sa sn sc, .slice ca cn cc, .int .u64 (wk : Nat), .int .i64 sk, .int .i64 er])] L)) ?_
  simp only [List.length_cons, List.length_nil, Nat.zero_add, Any.someVals]
  iterate 5 apply Exists.intro
  repeat (first
    | (refine Any.E_off rfl ?_; simp only [Act.put, List.setIfInBounds_toArray, List.set_cons_succ, List.set_cons_zero])
    | (apply Any.E_pureq rfl rfl rfl
       case h => intro K hK; go_big_quiet_op; (refine hK _ ?_; rfl)
       case hr => exact fun _ => rfl
       simp only [Act.put, List.setIfInBounds_toArray, List.set_cons_succ, List.set_cons_zero])
    | (apply Any.E_val rfl rfl rfl rfl
       case h =>
         intro E' hA K hK
         first
           | ((with_reducible refine Any.at_qload (T := 28) ?_); refine Any.q_ldv 1000 hA (by decide) rfl rfl 7 _ Tryz.underlying28 rfl infoT (by decide) rfl ?_; refine hK _ ?_; rfl)
           | ((with_reducible refine Any.at_qload (T := 32) ?_); refine Any.q_ldv 1004 hA (by decide) rfl rfl 144 _ Tryz.underlying32 rfl infoPs (by decide) (size_pg _ _) ?_; refine hK _ ?_; rfl)
           | (go_big_quiet_op; first
             | (refine hK _ ?_; rfl)
             | (refine ⟨_, fun _ _ => rfl, ?_⟩; refine hK _ ?_; rfl)
             | (apply Exists.intro; refine ⟨fun w1 hw1 => ?_, ?_⟩; · (first
                 | fail)
                refine hK _ ?_; rfl))
       case hD => rfl
       simp only [Act.put, List.setIfInBounds_toArray, List.set_cons_succ, List.set_cons_zero])
    | ((with_reducible refine Any.at_ealloc ?_); refine Any.E_lay rfl rfl rfl (fun _ => rfl) ?_; intro B; simp only [Act.put, List.setIfInBounds_toArray, List.set_cons_succ, List.set_cons_zero])
    | ((with_reducible refine Any.at_estore (T := 28) ?_); refine Any.E_putv (T := 28) rfl rfl rfl rfl rfl rfl 7 infoT rfl rfl (by simp [Value.oneCell']) ?_; simp only [Act.put, List.setIfInBounds_toArray, List.set_cons_succ, List.set_cons_zero])
    | ((with_reducible refine Any.at_estore (T := 32) ?_); refine Any.E_putv (T := 32) rfl rfl rfl rfl rfl rfl 144 infoPs (size_pg _ _) (by rw [zeroPs, size_pg]) (one_pg _ _) ?_; simp only [Act.put, List.setIfInBounds_toArray, List.set_cons_succ, List.set_cons_zero]))
  try any_goals exact undef
  refine Any.E_nil ?_
  intro w9 hE9
  replace hv : Mem w0 w9 ([(b10, #[.int .i64 st, .int .i64 pc', .slice sa sn sc, .slice ra rn rcp, .int .u64 (wk : Nat), .int .i64 sk, .int .i64 er]), (b9, #[.int .i64 op, .int .u64 (arg : Nat)]), (b7, (pg b q)), (b6, #[.int .i64 st, .int .i64 pc', .slice sa sn sc, .slice ra rn rcp, .int .u64 (wk : Nat), .int .i64 sk, .int .i64 er]), (b5, pg b q), (b4, #[.int .i64 st, .int .i64 (p : Int), .slice sa sn sc, .slice ca cn cc, .int .u64 (wk : Nat), .int .i64 sk, .int .i64 er])] ++ L) _ := hE9.memr hv [1000, 1001, 1002, 1003, 1004, 1005] (by decide)
  clear hE9
  simp only [List.cons_append, List.nil_append] at hv
  go_wp2
  refine ret_cell21 Tryz.results7 rfl (read_row _ _ 28 #[.int .i64 st, .int .i64 pc', .slice sa sn sc, .slice ra rn rcp, .int .u64 (wk : Nat), .int .i64 sk, .int .i64 er] (hv.vars.row (.tail _ (.tail _ (.tail _ (.head _))))) 7 _ Tryz.underlying28 rfl infoT (by decide) rfl) rfl (read_row _ _ 32 (pg b q) (hv.vars.row (.tail _ (.tail _ (.head _)))) 144 _ Tryz.underlying32 rfl infoPs (by decide) (size_pg _ _)) rfl rfl ⟨_, _, rfl, (hv.drop.drop.drop.drop.drop.drop).keepR (mem_two (Mem.s HSm.out) Mem.z (fun y hy => Mem.s hy))⟩
set_option maxRecDepth 100000 in
set_option maxHeartbeats 4000000 in
theorem rdo_pop (st sk er : Int) (p : Nat) (wk : Nat) (sa ca : Option Addr) (sn sc cn cc : Nat) (S : List Nat) (C : List Int) (lb lo ln lcap : Nat) (l : List Cd.Inst) (op : Int) (arg : Nat) (b : Nat → Bool) (q : Nat → Nat → Nat) (w0 w : World) (L : List (Nat × Array Value)) (R : List (Nat × Value × List Value)) (hv0 : Mem w0 w L R) (hl : (2, .slice (some ⟨lb, lo, none⟩) ln lcap, cellsI l) ∈ R) (hs : (1, .slice sa sn sc, cellsU S) ∈ R) (hc : (1, .slice ca cn cc, cellsN C) ∈ R) (hp : p < ln) (hp2 : p < 200) (hs32 : sn ≤ 32) (hc16 : cn ≤ 16) (hi : ((cellsI l).drop (p * 2)).take 2 = [.int .i64 op, .int .u64 (arg : Nat)]) (kC : ∀ w', Rd w' 2 (.slice (some ⟨lb, lo, none⟩) ln lcap) (cellsI l) → Calls Tryz.prog 17 #[.slice (some ⟨lb, lo, none⟩) ln lcap] w' fun e w2 => e = .returned (.bool true) ∧ New w' w2) (ai : Nat) (ao : Int) (hai : sn < ai) (kG : ∀ w', Calls Tryz.prog 18 #[.agg #[.int .i64 op, .int .u64 (arg : Nat)], .agg #[.int .i64 st, .int .i64 (p : Int), .slice sa sn sc, .slice ca cn cc, .int .u64 (wk : Nat), .int .i64 sk, .int .i64 er]] w' fun e w2 => e = .returned (.tuple #[.agg #[.int .i64 st, .int .i64 (p : Int), .slice sa sn sc, .slice ca cn cc, .int .u64 (wk : Nat), .int .i64 sk, .int .i64 er], .int .i64 0, .bool false]) ∧ New w' w2) (kA : ∀ w', Calls Tryz.prog 19 #[.int .i64 op] w' fun e w2 => e = .returned (.tuple #[.int .i64 ((ai : Nat) : Int), .int .i64 ao]) ∧ New w' w2) :
    Calls Tryz.prog 7 #[.slice (some ⟨lb, lo, none⟩) ln lcap, .agg #[.int .i64 st, .int .i64 (p : Int), .slice sa sn sc, .slice ca cn cc, .int .u64 (wk : Nat), .int .i64 sk, .int .i64 er], .agg (pg b q)] w (DoA w0 L R b (⟨st, (p : Int), S, C, wk, sk, er⟩, q, 300)) := by
  have hv := hv0
  have HLm := Lib.hid hl
  have HSm := Lib.hid hs
  have HCm := Lib.hid hc
  have HI := Lib.hid hi
  have g0 : decide ((p : Int) < 0) = false := decide_eq_false (by omega)
  have g0n : ¬ (p : Int) < 0 := by omega
  have g1 : decide ((ln : Int) ≤ (p : Int)) = false := decide_eq_false (by omega)
  have g1n : ¬ ln ≤ p := by omega
  have g2 : decide ((32 : Int) < (sn : Int)) = false := decide_eq_false (by omega)
  have g3 : decide ((16 : Int) < (cn : Int)) = false := decide_eq_false (by omega)
  have hpl : (p : Int) < (ln : Int) := by omega
  have qp : IntKind.i64.wrap ((p : Int) + 1) = (p : Int) + 1 := IntWalk.i64_in _ (by omega)
  clear hl hs hc hv0 hi hs32 hc16 hp
  have kP := fun w' => RPop_no st (p : Int) sk er wk sa ca sn sc cn cc ((ai : Nat) : Int) w' (.inr (by omega))
  clear hai
  go_enter Tryz.func7, Tryz.ntmps7
  go_wp2_with (first
    | ((with_reducible refine at_box (T := 28) (dst := some 4) ?_); refine wl_newb rfl #[.int .i64 st, .int .i64 (p : Int), .slice sa sn sc, .slice ca cn cc, .int .u64 (wk : Nat), .int .i64 sk, .int .i64 er] 28 (fun _ => rfl) ?_; intro b4 w2 hm2; replace hv := hv.madeAt hm2; clear hm2)
    | ((with_reducible refine at_box (T := 32) (dst := some 5) ?_); refine wl_newb rfl (pg b q) 32 (fun _ => rfl) ?_; intro b5 w2 hm2; replace hv := hv.madeAt hm2; clear hm2)
    | ((with_reducible refine at_alloc (T := 28) (dst := some 6) ?_); refine wl_newb rfl #[.int .i64 0, .int .i64 0, .slice none 0 0, .slice none 0 0, .int .u64 0, .int .i64 0, .int .i64 0] 28 (fun _ => rfl) ?_; intro b6 w2 hm2; replace hv := hv.madeAt hm2; clear hm2)
    | ((with_reducible refine at_alloc (T := 32) (dst := some 7) ?_); refine wl_newb rfl Tryz.zeroCells32 32 (fun _ => rfl) ?_; intro b7 w2 hm2; replace hv := hv.madeAt hm2; clear hm2)
    | (go_at_call 17; (with_reducible refine (kC _ (hv.rd HLm.out)).mono ?_); rintro e w1 ⟨rfl, hn1⟩; replace hv := hv.new hn1; clear hn1)
    | ((with_reducible refine at_load (T := 3) ?_); refine wl_ldc rfl _ _ rfl _ (hv.vars.row (by first | exact .head _ | exact .tail _ (.head _) | exact .tail _ (.tail _ (.head _)) | exact .tail _ (.tail _ (.tail _ (.head _))) | exact .tail _ (.tail _ (.tail _ (.tail _ (.head _)))) | exact .tail _ (.tail _ (.tail _ (.tail _ (.tail _ (.head _))))) | exact .tail _ (.tail _ (.tail _ (.tail _ (.tail _ (.tail _ (.head _)))))) | exact .tail _ (.tail _ (.tail _ (.tail _ (.tail _ (.tail _ (.tail _ (.head _))))))))) _ Tryz.underlying3 rfl _ rfl ?_)
    | ((with_reducible refine at_load (T := 23) ?_); refine wl_ldc rfl _ _ rfl _ (hv.vars.row (by first | exact .head _ | exact .tail _ (.head _) | exact .tail _ (.tail _ (.head _)) | exact .tail _ (.tail _ (.tail _ (.head _))) | exact .tail _ (.tail _ (.tail _ (.tail _ (.head _)))) | exact .tail _ (.tail _ (.tail _ (.tail _ (.tail _ (.head _))))) | exact .tail _ (.tail _ (.tail _ (.tail _ (.tail _ (.tail _ (.head _)))))) | exact .tail _ (.tail _ (.tail _ (.tail _ (.tail _ (.tail _ (.tail _ (.head _))))))))) _ Tryz.underlying23 rfl _ rfl ?_)
    | ((with_reducible refine at_load (T := 24) ?_); refine wl_ldc rfl _ _ rfl _ (hv.vars.row (by first | exact .head _ | exact .tail _ (.head _) | exact .tail _ (.tail _ (.head _)) | exact .tail _ (.tail _ (.tail _ (.head _))) | exact .tail _ (.tail _ (.tail _ (.tail _ (.head _)))) | exact .tail _ (.tail _ (.tail _ (.tail _ (.tail _ (.head _))))) | exact .tail _ (.tail _ (.tail _ (.tail _ (.tail _ (.tail _ (.head _)))))) | exact .tail _ (.tail _ (.tail _ (.tail _ (.tail _ (.tail _ (.tail _ (.head _))))))))) _ Tryz.underlying24 rfl _ rfl ?_)
    | ((with_reducible refine at_load (T := 48) ?_); refine wl_rdv rfl (hv.rd HLm.out) (p * 2) rfl 2 _ Tryz.underlying48 rfl infoI2 (by decide) #[.int .i64 op, .int .u64 (arg : Nat)] HI.out rfl ?_)
    | ((with_reducible refine at_alloc (T := 48) (dst := some 9) ?_); refine wl_newb rfl #[.int .i64 0, .int .u64 0] 48 (fun _ => rfl) ?_; intro b9 w2 hm2; replace hv := hv.madeAt hm2; clear hm2)
    | ((with_reducible refine at_store (T := 48) ?_); refine wl_stv rfl b9 rfl _ rfl _ (hv.vars.row (by first | exact .head _ | exact .tail _ (.head _) | exact .tail _ (.tail _ (.head _)) | exact .tail _ (.tail _ (.tail _ (.head _))) | exact .tail _ (.tail _ (.tail _ (.tail _ (.head _)))) | exact .tail _ (.tail _ (.tail _ (.tail _ (.tail _ (.head _))))) | exact .tail _ (.tail _ (.tail _ (.tail _ (.tail _ (.tail _ (.head _)))))) | exact .tail _ (.tail _ (.tail _ (.tail _ (.tail _ (.tail _ (.tail _ (.head _))))))))) (hv.vars.sft (by first | exact .head _ | exact .tail _ (.head _) | exact .tail _ (.tail _ (.head _)) | exact .tail _ (.tail _ (.tail _ (.head _))) | exact .tail _ (.tail _ (.tail _ (.tail _ (.head _)))) | exact .tail _ (.tail _ (.tail _ (.tail _ (.tail _ (.head _))))) | exact .tail _ (.tail _ (.tail _ (.tail _ (.tail _ (.tail _ (.head _)))))) | exact .tail _ (.tail _ (.tail _ (.tail _ (.tail _ (.tail _ (.tail _ (.head _))))))))) 2 infoI2 rfl rfl (by simp [Value.oneCell']) ?_; intro w2 hw2; (first | (replace hv := hv.set 0 rfl hw2) | (replace hv := hv.set 1 rfl hw2) | (replace hv := hv.set 2 rfl hw2) | (replace hv := hv.set 3 rfl hw2)); clear hw2; simp only [List.set] at hv)
    | ((with_reducible refine at_load (T := 48) ?_); refine wl_ldv rfl _ rfl _ (hv.vars.row (by first | exact .head _ | exact .tail _ (.head _) | exact .tail _ (.tail _ (.head _)) | exact .tail _ (.tail _ (.tail _ (.head _))) | exact .tail _ (.tail _ (.tail _ (.tail _ (.head _)))) | exact .tail _ (.tail _ (.tail _ (.tail _ (.tail _ (.head _))))) | exact .tail _ (.tail _ (.tail _ (.tail _ (.tail _ (.tail _ (.head _)))))) | exact .tail _ (.tail _ (.tail _ (.tail _ (.tail _ (.tail _ (.tail _ (.head _))))))))) 2 _ Tryz.underlying48 rfl infoI2 (by decide) rfl ?_)
    | ((with_reducible refine at_load (T := 28) ?_); refine wl_ldv rfl _ rfl _ (hv.vars.row (by first | exact .head _ | exact .tail _ (.head _) | exact .tail _ (.tail _ (.head _)) | exact .tail _ (.tail _ (.tail _ (.head _))) | exact .tail _ (.tail _ (.tail _ (.tail _ (.head _)))) | exact .tail _ (.tail _ (.tail _ (.tail _ (.tail _ (.head _))))) | exact .tail _ (.tail _ (.tail _ (.tail _ (.tail _ (.tail _ (.head _)))))) | exact .tail _ (.tail _ (.tail _ (.tail _ (.tail _ (.tail _ (.tail _ (.head _))))))))) 7 _ Tryz.underlying28 rfl infoT (by decide) rfl ?_)
    | ((with_reducible refine at_alloc (T := 28) (dst := some 10) ?_); refine wl_newb rfl #[.int .i64 0, .int .i64 0, .slice none 0 0, .slice none 0 0, .int .u64 0, .int .i64 0, .int .i64 0] 28 (fun _ => rfl) ?_; intro b10 w2 hm2; replace hv := hv.madeAt hm2; clear hm2)
    | ((with_reducible refine at_store (T := 28) ?_); refine wl_stv rfl b10 rfl _ rfl _ (hv.vars.row (by first | exact .head _ | exact .tail _ (.head _) | exact .tail _ (.tail _ (.head _)) | exact .tail _ (.tail _ (.tail _ (.head _))) | exact .tail _ (.tail _ (.tail _ (.tail _ (.head _)))) | exact .tail _ (.tail _ (.tail _ (.tail _ (.tail _ (.head _))))) | exact .tail _ (.tail _ (.tail _ (.tail _ (.tail _ (.tail _ (.head _)))))) | exact .tail _ (.tail _ (.tail _ (.tail _ (.tail _ (.tail _ (.tail _ (.head _))))))))) (hv.vars.sft (by first | exact .head _ | exact .tail _ (.head _) | exact .tail _ (.tail _ (.head _)) | exact .tail _ (.tail _ (.tail _ (.head _))) | exact .tail _ (.tail _ (.tail _ (.tail _ (.head _)))) | exact .tail _ (.tail _ (.tail _ (.tail _ (.tail _ (.head _))))) | exact .tail _ (.tail _ (.tail _ (.tail _ (.tail _ (.tail _ (.head _)))))) | exact .tail _ (.tail _ (.tail _ (.tail _ (.tail _ (.tail _ (.tail _ (.head _))))))))) 7 infoT rfl rfl (by simp [Value.oneCell']) ?_; intro w2 hw2; (first | (replace hv := hv.set 0 rfl hw2) | (replace hv := hv.set 1 rfl hw2) | (replace hv := hv.set 2 rfl hw2) | (replace hv := hv.set 3 rfl hw2)); clear hw2; simp only [List.set] at hv)
    | (go_at_call 18; (with_reducible refine (kG _).mono ?_); rintro e w1 ⟨rfl, hn1⟩; replace hv := hv.new hn1; clear hn1)
    | (go_at_call 19; (with_reducible refine (kA _).mono ?_); rintro e w1 ⟨rfl, hn1⟩; replace hv := hv.new hn1; clear hn1)
    | (go_at_call 12; (with_reducible refine (kP _).mono ?_); rintro e w1 ⟨rfl, hn1⟩; replace hv := hv.new hn1; clear hn1))
  refine Any.wp_region_walk [⟨[1005], none⟩, ⟨[1004], none⟩, ⟨[1003], some 1003⟩, ⟨[1002], some 1002⟩, ⟨[], none⟩] [.val, .val, .put, .put, .val] (by kernel_rfl) (by kernel_rfl) (hv.vars.keep (List.sublist_append_left [(b10, #[.int .i64 st, .int .i64 (p : Int), .slice sa sn sc, .slice ca cn cc, .int .u64 (wk : Nat), .int .i64 sk, .int .i64 er]), (b9, #[.int .i64 op, .int .u64 (arg : Nat)]), (b7, Tryz.zeroCells32), (b6, #[.int .i64 0, .int .i64 0, .slice none 0 0, .slice none 0 0, .int .u64 0, .int .i64 0, .int .i64 0]), (b5, pg b q), (b4, #[.int .i64 st, .int .i64 (p : Int), .slice sa sn sc, .slice ca cn cc, .int .u64 (wk : Nat), .int .i64 sk, .int .i64 er])] L)) ?_
  simp only [List.length_cons, List.length_nil, Nat.zero_add, Any.someVals]
  iterate 5 apply Exists.intro
  repeat (first
    | (refine Any.E_off rfl ?_; simp only [Act.put, List.setIfInBounds_toArray, List.set_cons_succ, List.set_cons_zero])
    | (apply Any.E_pureq rfl rfl rfl
       case h => intro K hK; go_big_quiet_op; (refine hK _ ?_; rfl)
       case hr => exact fun _ => rfl
       simp only [Act.put, List.setIfInBounds_toArray, List.set_cons_succ, List.set_cons_zero])
    | (apply Any.E_val rfl rfl rfl rfl
       case h =>
         intro E' hA K hK
         first
           | ((with_reducible refine Any.at_qload (T := 28) ?_); refine Any.q_ldv 1005 hA (by decide) rfl rfl 7 _ Tryz.underlying28 rfl infoT (by decide) rfl ?_; refine hK _ ?_; rfl)
           | ((with_reducible refine Any.at_qload (T := 32) ?_); refine Any.q_ldv 1004 hA (by decide) rfl rfl 144 _ Tryz.underlying32 rfl infoPs (by decide) (size_pg _ _) ?_; refine hK _ ?_; rfl)
           | (go_big_quiet_op; first
             | (refine hK _ ?_; rfl)
             | (refine ⟨_, fun _ _ => rfl, ?_⟩; refine hK _ ?_; rfl)
             | (apply Exists.intro; refine ⟨fun w1 hw1 => ?_, ?_⟩; · (first
                 | fail)
                refine hK _ ?_; rfl))
       case hD => rfl
       simp only [Act.put, List.setIfInBounds_toArray, List.set_cons_succ, List.set_cons_zero])
    | ((with_reducible refine Any.at_ealloc ?_); refine Any.E_lay rfl rfl rfl (fun _ => rfl) ?_; intro B; simp only [Act.put, List.setIfInBounds_toArray, List.set_cons_succ, List.set_cons_zero])
    | ((with_reducible refine Any.at_estore (T := 28) ?_); refine Any.E_putv (T := 28) rfl rfl rfl rfl rfl rfl 7 infoT rfl rfl (by simp [Value.oneCell']) ?_; simp only [Act.put, List.setIfInBounds_toArray, List.set_cons_succ, List.set_cons_zero])
    | ((with_reducible refine Any.at_estore (T := 32) ?_); refine Any.E_putv (T := 32) rfl rfl rfl rfl rfl rfl 144 infoPs (size_pg _ _) (by rw [zeroPs, size_pg]) (one_pg _ _) ?_; simp only [Act.put, List.setIfInBounds_toArray, List.set_cons_succ, List.set_cons_zero]))
  try any_goals exact undef
  refine Any.E_nil ?_
  intro w9 hE9
  replace hv : Mem w0 w9 ([(b10, #[.int .i64 st, .int .i64 (p : Int), .slice sa sn sc, .slice ca cn cc, .int .u64 (wk : Nat), .int .i64 sk, .int .i64 er]), (b9, #[.int .i64 op, .int .u64 (arg : Nat)]), (b7, (pg b q)), (b6, #[.int .i64 st, .int .i64 (p : Int), .slice sa sn sc, .slice ca cn cc, .int .u64 (wk : Nat), .int .i64 sk, .int .i64 er]), (b5, pg b q), (b4, #[.int .i64 st, .int .i64 (p : Int), .slice sa sn sc, .slice ca cn cc, .int .u64 (wk : Nat), .int .i64 sk, .int .i64 er])] ++ L) _ := hE9.memr hv [1000, 1001, 1002, 1003, 1004, 1005] (by decide)
  clear hE9
  simp only [List.cons_append, List.nil_append] at hv
  go_wp2
  refine ret_cell21 Tryz.results7 rfl (read_row _ _ 28 #[.int .i64 st, .int .i64 (p : Int), .slice sa sn sc, .slice ca cn cc, .int .u64 (wk : Nat), .int .i64 sk, .int .i64 er] (hv.vars.row (.tail _ (.tail _ (.tail _ (.head _))))) 7 _ Tryz.underlying28 rfl infoT (by decide) rfl) rfl (read_row _ _ 32 (pg b q) (hv.vars.row (.tail _ (.tail _ (.head _)))) 144 _ Tryz.underlying32 rfl infoPs (by decide) (size_pg _ _)) rfl rfl ⟨_, _, rfl, (hv.drop.drop.drop.drop.drop.drop).keepR (mem_two HSm.out HCm.out (fun y hy => hy))⟩
set_option maxRecDepth 100000 in
set_option maxHeartbeats 4000000 in
theorem rdo_left (st sk er : Int) (p : Nat) (wk : Nat) (sa ca : Option Addr) (sn sc cn cc : Nat) (S : List Nat) (C : List Int) (lb lo ln lcap : Nat) (l : List Cd.Inst) (op : Int) (arg : Nat) (b : Nat → Bool) (q : Nat → Nat → Nat) (w0 w : World) (L : List (Nat × Array Value)) (R : List (Nat × Value × List Value)) (hv0 : Mem w0 w L R) (hl : (2, .slice (some ⟨lb, lo, none⟩) ln lcap, cellsI l) ∈ R) (hs : (1, .slice sa sn sc, cellsU S) ∈ R) (hc : (1, .slice ca cn cc, cellsN C) ∈ R) (hp : p < ln) (hp2 : p < 200) (hs32 : sn ≤ 32) (hc16 : cn ≤ 16) (hi : ((cellsI l).drop (p * 2)).take 2 = [.int .i64 op, .int .u64 (arg : Nat)]) (kC : ∀ w', Rd w' 2 (.slice (some ⟨lb, lo, none⟩) ln lcap) (cellsI l) → Calls Tryz.prog 17 #[.slice (some ⟨lb, lo, none⟩) ln lcap] w' fun e w2 => e = .returned (.bool true) ∧ New w' w2) (ai d : Nat) (ao : Int) (hS : S.length ≤ 1000) (hai : ai + d = sn) (LL : List Nat) (q' : Nat → Nat → Nat) (n : Int) (hn : n ≠ 0) (kG : ∀ w', Calls Tryz.prog 18 #[.agg #[.int .i64 op, .int .u64 (arg : Nat)], .agg #[.int .i64 st, .int .i64 (p : Int), .slice sa sn sc, .slice ca cn cc, .int .u64 (wk : Nat), .int .i64 sk, .int .i64 er]] w' fun e w2 => e = .returned (.tuple #[.agg #[.int .i64 st, .int .i64 (p : Int), .slice sa sn sc, .slice ca cn cc, .int .u64 (wk : Nat), .int .i64 sk, .int .i64 er], .int .i64 0, .bool false]) ∧ New w' w2) (kA : ∀ w', Calls Tryz.prog 19 #[.int .i64 op] w' fun e w2 => e = .returned (.tuple #[.int .i64 ((ai : Nat) : Int), .int .i64 ao]) ∧ New w' w2) (kL : ∀ lv sv w' L' R', Mem w0 w' L' R' → (1, lv, cellsU (S.drop d)) ∈ R' → (1, sv, cellsU (S.take d)) ∈ R' → Calls Tryz.prog 20 #[.agg #[.int .i64 op, .int .u64 (arg : Nat)], lv, sv, .agg (pg b q)] w' (LeftR w0 L' R' b LL q' n)) :
    Calls Tryz.prog 7 #[.slice (some ⟨lb, lo, none⟩) ln lcap, .agg #[.int .i64 st, .int .i64 (p : Int), .slice sa sn sc, .slice ca cn cc, .int .u64 (wk : Nat), .int .i64 sk, .int .i64 er], .agg (pg b q)] w (DoA w0 L R b (⟨st, (p : Int), S, C, wk, sk, er⟩, q, n)) := by
  have hv := hv0
  have HLm := Lib.hid hl
  have HSm := Lib.hid hs
  have HCm := Lib.hid hc
  have HI := Lib.hid hi
  have g0 : decide ((p : Int) < 0) = false := decide_eq_false (by omega)
  have g0n : ¬ (p : Int) < 0 := by omega
  have g1 : decide ((ln : Int) ≤ (p : Int)) = false := decide_eq_false (by omega)
  have g1n : ¬ ln ≤ p := by omega
  have g2 : decide ((32 : Int) < (sn : Int)) = false := decide_eq_false (by omega)
  have g3 : decide ((16 : Int) < (cn : Int)) = false := decide_eq_false (by omega)
  have hpl : (p : Int) < (ln : Int) := by omega
  have qp : IntKind.i64.wrap ((p : Int) + 1) = (p : Int) + 1 := IntWalk.i64_in _ (by omega)
  clear hl hs hc hv0 hi hs32 hc16 hp
  have gn : (n != 0) = true := bne_iff_ne.2 hn
  have gn2 : (n == 0) = false := beq_eq_false_iff_ne.2 hn
  have HS1 := Lib.hid hS
  have HAD := Lib.hid hai
  clear hn hS hai
  go_enter Tryz.func7, Tryz.ntmps7
  go_wp2_with (first
    | ((with_reducible refine at_box (T := 28) (dst := some 4) ?_); refine wl_newb rfl #[.int .i64 st, .int .i64 (p : Int), .slice sa sn sc, .slice ca cn cc, .int .u64 (wk : Nat), .int .i64 sk, .int .i64 er] 28 (fun _ => rfl) ?_; intro b4 w2 hm2; replace hv := hv.madeAt hm2; clear hm2)
    | ((with_reducible refine at_box (T := 32) (dst := some 5) ?_); refine wl_newb rfl (pg b q) 32 (fun _ => rfl) ?_; intro b5 w2 hm2; replace hv := hv.madeAt hm2; clear hm2)
    | ((with_reducible refine at_alloc (T := 28) (dst := some 6) ?_); refine wl_newb rfl #[.int .i64 0, .int .i64 0, .slice none 0 0, .slice none 0 0, .int .u64 0, .int .i64 0, .int .i64 0] 28 (fun _ => rfl) ?_; intro b6 w2 hm2; replace hv := hv.madeAt hm2; clear hm2)
    | ((with_reducible refine at_alloc (T := 32) (dst := some 7) ?_); refine wl_newb rfl Tryz.zeroCells32 32 (fun _ => rfl) ?_; intro b7 w2 hm2; replace hv := hv.madeAt hm2; clear hm2)
    | (go_at_call 17; (with_reducible refine (kC _ (hv.rd HLm.out)).mono ?_); rintro e w1 ⟨rfl, hn1⟩; replace hv := hv.new hn1; clear hn1)
    | ((with_reducible refine at_load (T := 3) ?_); refine wl_ldc rfl _ _ rfl _ (hv.vars.row (by first | exact .head _ | exact .tail _ (.head _) | exact .tail _ (.tail _ (.head _)) | exact .tail _ (.tail _ (.tail _ (.head _))) | exact .tail _ (.tail _ (.tail _ (.tail _ (.head _)))) | exact .tail _ (.tail _ (.tail _ (.tail _ (.tail _ (.head _))))) | exact .tail _ (.tail _ (.tail _ (.tail _ (.tail _ (.tail _ (.head _)))))) | exact .tail _ (.tail _ (.tail _ (.tail _ (.tail _ (.tail _ (.tail _ (.head _))))))))) _ Tryz.underlying3 rfl _ rfl ?_)
    | ((with_reducible refine at_load (T := 23) ?_); refine wl_ldc rfl _ _ rfl _ (hv.vars.row (by first | exact .head _ | exact .tail _ (.head _) | exact .tail _ (.tail _ (.head _)) | exact .tail _ (.tail _ (.tail _ (.head _))) | exact .tail _ (.tail _ (.tail _ (.tail _ (.head _)))) | exact .tail _ (.tail _ (.tail _ (.tail _ (.tail _ (.head _))))) | exact .tail _ (.tail _ (.tail _ (.tail _ (.tail _ (.tail _ (.head _)))))) | exact .tail _ (.tail _ (.tail _ (.tail _ (.tail _ (.tail _ (.tail _ (.head _))))))))) _ Tryz.underlying23 rfl _ rfl ?_)
    | ((with_reducible refine at_load (T := 24) ?_); refine wl_ldc rfl _ _ rfl _ (hv.vars.row (by first | exact .head _ | exact .tail _ (.head _) | exact .tail _ (.tail _ (.head _)) | exact .tail _ (.tail _ (.tail _ (.head _))) | exact .tail _ (.tail _ (.tail _ (.tail _ (.head _)))) | exact .tail _ (.tail _ (.tail _ (.tail _ (.tail _ (.head _))))) | exact .tail _ (.tail _ (.tail _ (.tail _ (.tail _ (.tail _ (.head _)))))) | exact .tail _ (.tail _ (.tail _ (.tail _ (.tail _ (.tail _ (.tail _ (.head _))))))))) _ Tryz.underlying24 rfl _ rfl ?_)
    | ((with_reducible refine at_load (T := 48) ?_); refine wl_rdv rfl (hv.rd HLm.out) (p * 2) rfl 2 _ Tryz.underlying48 rfl infoI2 (by decide) #[.int .i64 op, .int .u64 (arg : Nat)] HI.out rfl ?_)
    | ((with_reducible refine at_alloc (T := 48) (dst := some 9) ?_); refine wl_newb rfl #[.int .i64 0, .int .u64 0] 48 (fun _ => rfl) ?_; intro b9 w2 hm2; replace hv := hv.madeAt hm2; clear hm2)
    | ((with_reducible refine at_store (T := 48) ?_); refine wl_stv rfl b9 rfl _ rfl _ (hv.vars.row (by first | exact .head _ | exact .tail _ (.head _) | exact .tail _ (.tail _ (.head _)) | exact .tail _ (.tail _ (.tail _ (.head _))) | exact .tail _ (.tail _ (.tail _ (.tail _ (.head _)))) | exact .tail _ (.tail _ (.tail _ (.tail _ (.tail _ (.head _))))) | exact .tail _ (.tail _ (.tail _ (.tail _ (.tail _ (.tail _ (.head _)))))) | exact .tail _ (.tail _ (.tail _ (.tail _ (.tail _ (.tail _ (.tail _ (.head _))))))))) (hv.vars.sft (by first | exact .head _ | exact .tail _ (.head _) | exact .tail _ (.tail _ (.head _)) | exact .tail _ (.tail _ (.tail _ (.head _))) | exact .tail _ (.tail _ (.tail _ (.tail _ (.head _)))) | exact .tail _ (.tail _ (.tail _ (.tail _ (.tail _ (.head _))))) | exact .tail _ (.tail _ (.tail _ (.tail _ (.tail _ (.tail _ (.head _)))))) | exact .tail _ (.tail _ (.tail _ (.tail _ (.tail _ (.tail _ (.tail _ (.head _))))))))) 2 infoI2 rfl rfl (by simp [Value.oneCell']) ?_; intro w2 hw2; (first | (replace hv := hv.set 0 rfl hw2) | (replace hv := hv.set 1 rfl hw2) | (replace hv := hv.set 2 rfl hw2) | (replace hv := hv.set 3 rfl hw2)); clear hw2; simp only [List.set] at hv)
    | ((with_reducible refine at_load (T := 48) ?_); refine wl_ldv rfl _ rfl _ (hv.vars.row (by first | exact .head _ | exact .tail _ (.head _) | exact .tail _ (.tail _ (.head _)) | exact .tail _ (.tail _ (.tail _ (.head _))) | exact .tail _ (.tail _ (.tail _ (.tail _ (.head _)))) | exact .tail _ (.tail _ (.tail _ (.tail _ (.tail _ (.head _))))) | exact .tail _ (.tail _ (.tail _ (.tail _ (.tail _ (.tail _ (.head _)))))) | exact .tail _ (.tail _ (.tail _ (.tail _ (.tail _ (.tail _ (.tail _ (.head _))))))))) 2 _ Tryz.underlying48 rfl infoI2 (by decide) rfl ?_)
    | ((with_reducible refine at_load (T := 28) ?_); refine wl_ldv rfl _ rfl _ (hv.vars.row (by first | exact .head _ | exact .tail _ (.head _) | exact .tail _ (.tail _ (.head _)) | exact .tail _ (.tail _ (.tail _ (.head _))) | exact .tail _ (.tail _ (.tail _ (.tail _ (.head _)))) | exact .tail _ (.tail _ (.tail _ (.tail _ (.tail _ (.head _))))) | exact .tail _ (.tail _ (.tail _ (.tail _ (.tail _ (.tail _ (.head _)))))) | exact .tail _ (.tail _ (.tail _ (.tail _ (.tail _ (.tail _ (.tail _ (.head _))))))))) 7 _ Tryz.underlying28 rfl infoT (by decide) rfl ?_)
    | ((with_reducible refine at_alloc (T := 28) (dst := some 10) ?_); refine wl_newb rfl #[.int .i64 0, .int .i64 0, .slice none 0 0, .slice none 0 0, .int .u64 0, .int .i64 0, .int .i64 0] 28 (fun _ => rfl) ?_; intro b10 w2 hm2; replace hv := hv.madeAt hm2; clear hm2)
    | ((with_reducible refine at_store (T := 28) ?_); refine wl_stv rfl b10 rfl _ rfl _ (hv.vars.row (by first | exact .head _ | exact .tail _ (.head _) | exact .tail _ (.tail _ (.head _)) | exact .tail _ (.tail _ (.tail _ (.head _))) | exact .tail _ (.tail _ (.tail _ (.tail _ (.head _)))) | exact .tail _ (.tail _ (.tail _ (.tail _ (.tail _ (.head _))))) | exact .tail _ (.tail _ (.tail _ (.tail _ (.tail _ (.tail _ (.head _)))))) | exact .tail _ (.tail _ (.tail _ (.tail _ (.tail _ (.tail _ (.tail _ (.head _))))))))) (hv.vars.sft (by first | exact .head _ | exact .tail _ (.head _) | exact .tail _ (.tail _ (.head _)) | exact .tail _ (.tail _ (.tail _ (.head _))) | exact .tail _ (.tail _ (.tail _ (.tail _ (.head _)))) | exact .tail _ (.tail _ (.tail _ (.tail _ (.tail _ (.head _))))) | exact .tail _ (.tail _ (.tail _ (.tail _ (.tail _ (.tail _ (.head _)))))) | exact .tail _ (.tail _ (.tail _ (.tail _ (.tail _ (.tail _ (.tail _ (.head _))))))))) 7 infoT rfl rfl (by simp [Value.oneCell']) ?_; intro w2 hw2; (first | (replace hv := hv.set 0 rfl hw2) | (replace hv := hv.set 1 rfl hw2) | (replace hv := hv.set 2 rfl hw2) | (replace hv := hv.set 3 rfl hw2)); clear hw2; simp only [List.set] at hv)
    | (go_at_call 18; (with_reducible refine (kG _).mono ?_); rintro e w1 ⟨rfl, hn1⟩; replace hv := hv.new hn1; clear hn1)
    | (go_at_call 19; (with_reducible refine (kA _).mono ?_); rintro e w1 ⟨rfl, hn1⟩; replace hv := hv.new hn1; clear hn1)
    | (go_at_call 12; (with_reducible refine (RPop_yes st (p : Int) sk er wk sa ca sn sc cn cc S ai d _ _ _ _ hv HSm.out HS1.out HAD.out).mono ?_); rintro e w1 ⟨pa, pn, pcp, ra, rn, rcp, rfl, hv1⟩; replace hv := hv1; clear hv1)
    | (go_at_call 20; (with_reducible refine (kL _ _ _ _ _ hv (Mem.s Mem.z) Mem.z).mono ?_); rintro e w1 ⟨wa, wn, wcp, rfl, hv1⟩; replace hv := hv1; clear hv1)
    | ((with_reducible refine at_alloc (T := 32) (dst := some 18) ?_); refine wl_newb rfl Tryz.zeroCells32 32 (fun _ => rfl) ?_; intro b18 w2 hm2; replace hv := hv.madeAt hm2; clear hm2)
    | ((with_reducible refine at_store (T := 32) ?_); refine wl_stv rfl b18 rfl _ rfl _ (hv.vars.row (by first | exact .head _ | exact .tail _ (.head _) | exact .tail _ (.tail _ (.head _)) | exact .tail _ (.tail _ (.tail _ (.head _))) | exact .tail _ (.tail _ (.tail _ (.tail _ (.head _)))) | exact .tail _ (.tail _ (.tail _ (.tail _ (.tail _ (.head _))))) | exact .tail _ (.tail _ (.tail _ (.tail _ (.tail _ (.tail _ (.head _)))))) | exact .tail _ (.tail _ (.tail _ (.tail _ (.tail _ (.tail _ (.tail _ (.head _))))))))) (hv.vars.sft (by first | exact .head _ | exact .tail _ (.head _) | exact .tail _ (.tail _ (.head _)) | exact .tail _ (.tail _ (.tail _ (.head _))) | exact .tail _ (.tail _ (.tail _ (.tail _ (.head _)))) | exact .tail _ (.tail _ (.tail _ (.tail _ (.tail _ (.head _))))) | exact .tail _ (.tail _ (.tail _ (.tail _ (.tail _ (.tail _ (.head _)))))) | exact .tail _ (.tail _ (.tail _ (.tail _ (.tail _ (.tail _ (.tail _ (.head _))))))))) 144 infoPs (size_pg _ _) (by rw [zeroPs, size_pg]) (one_pg _ _) ?_; intro w2 hw2; (first | (replace hv := hv.set 0 rfl hw2) | (replace hv := hv.set 1 rfl hw2) | (replace hv := hv.set 2 rfl hw2) | (replace hv := hv.set 3 rfl hw2)); clear hw2; simp only [List.set] at hv)
    | ((with_reducible refine at_load (T := 32) ?_); refine wl_ldv rfl _ rfl _ (hv.vars.row (by first | exact .head _ | exact .tail _ (.head _) | exact .tail _ (.tail _ (.head _)) | exact .tail _ (.tail _ (.tail _ (.head _))) | exact .tail _ (.tail _ (.tail _ (.tail _ (.head _)))) | exact .tail _ (.tail _ (.tail _ (.tail _ (.tail _ (.head _))))) | exact .tail _ (.tail _ (.tail _ (.tail _ (.tail _ (.tail _ (.head _)))))) | exact .tail _ (.tail _ (.tail _ (.tail _ (.tail _ (.tail _ (.tail _ (.head _))))))))) 144 _ Tryz.underlying32 rfl infoPs (by decide) (size_pg _ _) ?_))
  refine Any.wp_region_walk [⟨[1006], none⟩, ⟨[1005], none⟩, ⟨[], none⟩, ⟨[1004], some 1004⟩, ⟨[1003], some 1003⟩, ⟨[], none⟩] [.val, .val, .val, .put, .put, .val] (by kernel_rfl) (by kernel_rfl) (hv.vars.keep (List.sublist_append_left [(b18, pg b q'), (b10, #[.int .i64 st, .int .i64 (p : Int), .slice pa pn pcp, .slice ca cn cc, .int .u64 (wk : Nat), .int .i64 sk, .int .i64 er]), (b9, #[.int .i64 op, .int .u64 (arg : Nat)]), (b7, Tryz.zeroCells32), (b6, #[.int .i64 0, .int .i64 0, .slice none 0 0, .slice none 0 0, .int .u64 0, .int .i64 0, .int .i64 0]), (b5, pg b q), (b4, #[.int .i64 st, .int .i64 (p : Int), .slice sa sn sc, .slice ca cn cc, .int .u64 (wk : Nat), .int .i64 sk, .int .i64 er])] L)) ?_
  simp only [List.length_cons, List.length_nil, Nat.zero_add, Any.someVals]
  iterate 6 apply Exists.intro
  repeat (first
    | (refine Any.E_off rfl ?_; simp only [Act.put, List.setIfInBounds_toArray, List.set_cons_succ, List.set_cons_zero])
    | (apply Any.E_pureq rfl rfl rfl
       case h => intro K hK; go_big_quiet_op; (refine hK _ ?_; rfl)
       case hr => exact fun _ => rfl
       simp only [Act.put, List.setIfInBounds_toArray, List.set_cons_succ, List.set_cons_zero])
    | (apply Any.E_val rfl rfl rfl rfl
       case h =>
         intro E' hA K hK
         first
           | ((with_reducible refine Any.at_qload (T := 28) ?_); refine Any.q_ldv 1006 hA (by decide) rfl rfl 7 _ Tryz.underlying28 rfl infoT (by decide) rfl ?_; refine hK _ ?_; rfl)
           | ((with_reducible refine Any.at_qload (T := 32) ?_); refine Any.q_ldv 1005 hA (by decide) rfl rfl 144 _ Tryz.underlying32 rfl infoPs (by decide) (size_pg _ _) ?_; refine hK _ ?_; rfl)
           | (go_big_quiet_op; first
             | (refine hK _ ?_; rfl)
             | (refine ⟨_, fun _ _ => rfl, ?_⟩; refine hK _ ?_; rfl)
             | (apply Exists.intro; refine ⟨fun w1 hw1 => ?_, ?_⟩; · (first
                 | fail)
                refine hK _ ?_; rfl))
       case hD => rfl
       simp only [Act.put, List.setIfInBounds_toArray, List.set_cons_succ, List.set_cons_zero])
    | ((with_reducible refine Any.at_ealloc ?_); refine Any.E_lay rfl rfl rfl (fun _ => rfl) ?_; intro B; simp only [Act.put, List.setIfInBounds_toArray, List.set_cons_succ, List.set_cons_zero])
    | ((with_reducible refine Any.at_estore (T := 28) ?_); refine Any.E_putv (T := 28) rfl rfl rfl rfl rfl rfl 7 infoT rfl rfl (by simp [Value.oneCell']) ?_; simp only [Act.put, List.setIfInBounds_toArray, List.set_cons_succ, List.set_cons_zero])
    | ((with_reducible refine Any.at_estore (T := 32) ?_); refine Any.E_putv (T := 32) rfl rfl rfl rfl rfl rfl 144 infoPs (size_pg _ _) (by rw [zeroPs, size_pg]) (one_pg _ _) ?_; simp only [Act.put, List.setIfInBounds_toArray, List.set_cons_succ, List.set_cons_zero]))
  try any_goals exact undef
  refine Any.E_nil ?_
  intro w9 hE9
  replace hv : Mem w0 w9 ([(b18, pg b q'), (b10, #[.int .i64 st, .int .i64 (p : Int), .slice pa pn pcp, .slice ca cn cc, .int .u64 (wk : Nat), .int .i64 sk, .int .i64 er]), (b9, #[.int .i64 op, .int .u64 (arg : Nat)]), (b7, (pg b q)), (b6, #[.int .i64 st, .int .i64 (p : Int), .slice sa sn sc, .slice ca cn cc, .int .u64 (wk : Nat), .int .i64 sk, .int .i64 er]), (b5, pg b q), (b4, #[.int .i64 st, .int .i64 (p : Int), .slice sa sn sc, .slice ca cn cc, .int .u64 (wk : Nat), .int .i64 sk, .int .i64 er])] ++ L) _ := hE9.memr hv [1000, 1001, 1002, 1003, 1004, 1005, 1006] (by decide)
  clear hE9
  simp only [List.cons_append, List.nil_append] at hv
  go_wp2
  refine ret_cell21 Tryz.results7 rfl (read_row _ _ 28 #[.int .i64 st, .int .i64 (p : Int), .slice sa sn sc, .slice ca cn cc, .int .u64 (wk : Nat), .int .i64 sk, .int .i64 er] (hv.vars.row (.tail _ (.tail _ (.tail _ (.tail _ (.head _)))))) 7 _ Tryz.underlying28 rfl infoT (by decide) rfl) rfl (read_row _ _ 32 (pg b q) (hv.vars.row (.tail _ (.tail _ (.tail _ (.head _))))) 144 _ Tryz.underlying32 rfl infoPs (by decide) (size_pg _ _)) rfl rfl ⟨_, _, rfl, (hv.drop.drop.drop.drop.drop.drop.drop).keepR (mem_two (Mem.s (Mem.s (Mem.s HSm.out))) (Mem.s (Mem.s (Mem.s HCm.out))) (fun y hy => Mem.s (Mem.s (Mem.s hy))))⟩
set_option maxRecDepth 100000 in
set_option maxHeartbeats 8000000 in
theorem rdo_rest (st sk er : Int) (p : Nat) (wk : Nat) (sa ca : Option Addr) (sn sc cn cc : Nat) (S : List Nat) (C : List Int) (lb lo ln lcap : Nat) (l : List Cd.Inst) (op : Int) (arg : Nat) (b : Nat → Bool) (q : Nat → Nat → Nat) (w0 w : World) (L : List (Nat × Array Value)) (R : List (Nat × Value × List Value)) (hv0 : Mem w0 w L R) (hl : (2, .slice (some ⟨lb, lo, none⟩) ln lcap, cellsI l) ∈ R) (hs : (1, .slice sa sn sc, cellsU S) ∈ R) (hc : (1, .slice ca cn cc, cellsN C) ∈ R) (hp : p < ln) (hp2 : p < 200) (hs32 : sn ≤ 32) (hc16 : cn ≤ 16) (hi : ((cellsI l).drop (p * 2)).take 2 = [.int .i64 op, .int .u64 (arg : Nat)]) (kC : ∀ w', Rd w' 2 (.slice (some ⟨lb, lo, none⟩) ln lcap) (cellsI l) → Calls Tryz.prog 17 #[.slice (some ⟨lb, lo, none⟩) ln lcap] w' fun e w2 => e = .returned (.bool true) ∧ New w' w2) (ai d : Nat) (ao : Int) (hS : S.length = sn) (hai : ai + d = sn) (hai2 : op = 21 → 1 ≤ ai) (ha : op = 21 → arg < 1000) (LL : List Nat) (hL : LL.length ≤ 2) (q' : Nat → Nat → Nat) (kG : ∀ w', Calls Tryz.prog 18 #[.agg #[.int .i64 op, .int .u64 (arg : Nat)], .agg #[.int .i64 st, .int .i64 (p : Int), .slice sa sn sc, .slice ca cn cc, .int .u64 (wk : Nat), .int .i64 sk, .int .i64 er]] w' fun e w2 => e = .returned (.tuple #[.agg #[.int .i64 st, .int .i64 (p : Int), .slice sa sn sc, .slice ca cn cc, .int .u64 (wk : Nat), .int .i64 sk, .int .i64 er], .int .i64 0, .bool false]) ∧ New w' w2) (kA : ∀ w', Calls Tryz.prog 19 #[.int .i64 op] w' fun e w2 => e = .returned (.tuple #[.int .i64 ((ai : Nat) : Int), .int .i64 ao]) ∧ New w' w2) (kL : ∀ lv sv w' L' R', Mem w0 w' L' R' → (1, lv, cellsU (S.drop d)) ∈ R' → (1, sv, cellsU (S.take d)) ∈ R' → Calls Tryz.prog 20 #[.agg #[.int .i64 op, .int .u64 (arg : Nat)], lv, sv, .agg (pg b q)] w' (LeftR w0 L' R' b LL q' 0)) (r : Th × (Nat → Nat → Nat) × Int)
    (hO : 32 < (S.take d).length + LL.length → r = (⟨st, (p : Int), S, C, wk, sk, er⟩, q, 300)) (hK : (S.take d).length + LL.length ≤ 32 → r = (⟨st, if op = 21 ∧ (S.drop d).getD 0 0 = 0 then (arg : Int) else (p : Int) + 1, S.take d ++ LL, C, wk, sk, er⟩, q', 0)) :
    Calls Tryz.prog 7 #[.slice (some ⟨lb, lo, none⟩) ln lcap, .agg #[.int .i64 st, .int .i64 (p : Int), .slice sa sn sc, .slice ca cn cc, .int .u64 (wk : Nat), .int .i64 sk, .int .i64 er], .agg (pg b q)] w (DoA w0 L R b r) := by
  have HS1 : Hid (S.length ≤ 1000) := Lib.hid (by omega)
  have hS0 : (S.take d).length ≤ 32 := by rw [List.length_take]; omega
  have hv := hv0
  have HLm := Lib.hid hl
  have HSm := Lib.hid hs
  have HCm := Lib.hid hc
  have HI := Lib.hid hi
  have g0 : decide ((p : Int) < 0) = false := decide_eq_false (by omega)
  have g0n : ¬ (p : Int) < 0 := by omega
  have g1 : decide ((ln : Int) ≤ (p : Int)) = false := decide_eq_false (by omega)
  have g1n : ¬ ln ≤ p := by omega
  have g2 : decide ((32 : Int) < (sn : Int)) = false := decide_eq_false (by omega)
  have g3 : decide ((16 : Int) < (cn : Int)) = false := decide_eq_false (by omega)
  have hpl : (p : Int) < (ln : Int) := by omega
  have qp : IntKind.i64.wrap ((p : Int) + 1) = (p : Int) + 1 := IntWalk.i64_in _ (by omega)
  clear hl hs hc hv0 hi hs32 hc16 hp
  have HSD : Hid ((S.drop d).length = ai) := Lib.hid (by rw [List.length_drop]; omega)
  have HAD := Lib.hid hai
  have HO := Lib.hid hO
  have HK := Lib.hid hK
  have HA2 := Lib.hid hai2
  have HAR := Lib.hid ha
  obtain ⟨S0, hS0e⟩ : ∃ S0, S.take d = S0 := ⟨_, rfl⟩
  obtain ⟨ws, hwse⟩ : ∃ ws, S.drop d = ws := ⟨_, rfl⟩
  have RP := fun st pc sk er wk sa ca sn sc cn cc ai d w0 w L R h1 h2 h3 h4 => RPop_yes st pc sk er wk sa ca sn sc cn cc S ai d w0 w L R h1 h2 h3 h4
  clear hS hai hO hK hai2 ha
  go_enter Tryz.func7, Tryz.ntmps7
  go_wp2_with (first
    | ((with_reducible refine at_box (T := 28) (dst := some 4) ?_); refine wl_newb rfl #[.int .i64 st, .int .i64 (p : Int), .slice sa sn sc, .slice ca cn cc, .int .u64 (wk : Nat), .int .i64 sk, .int .i64 er] 28 (fun _ => rfl) ?_; intro b4 w2 hm2; replace hv := hv.madeAt hm2; clear hm2)
    | ((with_reducible refine at_box (T := 32) (dst := some 5) ?_); refine wl_newb rfl (pg b q) 32 (fun _ => rfl) ?_; intro b5 w2 hm2; replace hv := hv.madeAt hm2; clear hm2)
    | ((with_reducible refine at_alloc (T := 28) (dst := some 6) ?_); refine wl_newb rfl #[.int .i64 0, .int .i64 0, .slice none 0 0, .slice none 0 0, .int .u64 0, .int .i64 0, .int .i64 0] 28 (fun _ => rfl) ?_; intro b6 w2 hm2; replace hv := hv.madeAt hm2; clear hm2)
    | ((with_reducible refine at_alloc (T := 32) (dst := some 7) ?_); refine wl_newb rfl Tryz.zeroCells32 32 (fun _ => rfl) ?_; intro b7 w2 hm2; replace hv := hv.madeAt hm2; clear hm2)
    | (go_at_call 17; (with_reducible refine (kC _ (hv.rd HLm.out)).mono ?_); rintro e w1 ⟨rfl, hn1⟩; replace hv := hv.new hn1; clear hn1)
    | ((with_reducible refine at_load (T := 3) ?_); refine wl_ldc rfl _ _ rfl _ (hv.vars.row (by first | exact .head _ | exact .tail _ (.head _) | exact .tail _ (.tail _ (.head _)) | exact .tail _ (.tail _ (.tail _ (.head _))) | exact .tail _ (.tail _ (.tail _ (.tail _ (.head _)))) | exact .tail _ (.tail _ (.tail _ (.tail _ (.tail _ (.head _))))) | exact .tail _ (.tail _ (.tail _ (.tail _ (.tail _ (.tail _ (.head _)))))) | exact .tail _ (.tail _ (.tail _ (.tail _ (.tail _ (.tail _ (.tail _ (.head _))))))))) _ Tryz.underlying3 rfl _ rfl ?_)
    | ((with_reducible refine at_load (T := 23) ?_); refine wl_ldc rfl _ _ rfl _ (hv.vars.row (by first | exact .head _ | exact .tail _ (.head _) | exact .tail _ (.tail _ (.head _)) | exact .tail _ (.tail _ (.tail _ (.head _))) | exact .tail _ (.tail _ (.tail _ (.tail _ (.head _)))) | exact .tail _ (.tail _ (.tail _ (.tail _ (.tail _ (.head _))))) | exact .tail _ (.tail _ (.tail _ (.tail _ (.tail _ (.tail _ (.head _)))))) | exact .tail _ (.tail _ (.tail _ (.tail _ (.tail _ (.tail _ (.tail _ (.head _))))))))) _ Tryz.underlying23 rfl _ rfl ?_)
    | ((with_reducible refine at_load (T := 24) ?_); refine wl_ldc rfl _ _ rfl _ (hv.vars.row (by first | exact .head _ | exact .tail _ (.head _) | exact .tail _ (.tail _ (.head _)) | exact .tail _ (.tail _ (.tail _ (.head _))) | exact .tail _ (.tail _ (.tail _ (.tail _ (.head _)))) | exact .tail _ (.tail _ (.tail _ (.tail _ (.tail _ (.head _))))) | exact .tail _ (.tail _ (.tail _ (.tail _ (.tail _ (.tail _ (.head _)))))) | exact .tail _ (.tail _ (.tail _ (.tail _ (.tail _ (.tail _ (.tail _ (.head _))))))))) _ Tryz.underlying24 rfl _ rfl ?_)
    | ((with_reducible refine at_load (T := 48) ?_); refine wl_rdv rfl (hv.rd HLm.out) (p * 2) rfl 2 _ Tryz.underlying48 rfl infoI2 (by decide) #[.int .i64 op, .int .u64 (arg : Nat)] HI.out rfl ?_)
    | ((with_reducible refine at_alloc (T := 48) (dst := some 9) ?_); refine wl_newb rfl #[.int .i64 0, .int .u64 0] 48 (fun _ => rfl) ?_; intro b9 w2 hm2; replace hv := hv.madeAt hm2; clear hm2)
    | ((with_reducible refine at_store (T := 48) ?_); refine wl_stv rfl b9 rfl _ rfl _ (hv.vars.row (by first | exact .head _ | exact .tail _ (.head _) | exact .tail _ (.tail _ (.head _)) | exact .tail _ (.tail _ (.tail _ (.head _))) | exact .tail _ (.tail _ (.tail _ (.tail _ (.head _)))) | exact .tail _ (.tail _ (.tail _ (.tail _ (.tail _ (.head _))))) | exact .tail _ (.tail _ (.tail _ (.tail _ (.tail _ (.tail _ (.head _)))))) | exact .tail _ (.tail _ (.tail _ (.tail _ (.tail _ (.tail _ (.tail _ (.head _))))))))) (hv.vars.sft (by first | exact .head _ | exact .tail _ (.head _) | exact .tail _ (.tail _ (.head _)) | exact .tail _ (.tail _ (.tail _ (.head _))) | exact .tail _ (.tail _ (.tail _ (.tail _ (.head _)))) | exact .tail _ (.tail _ (.tail _ (.tail _ (.tail _ (.head _))))) | exact .tail _ (.tail _ (.tail _ (.tail _ (.tail _ (.tail _ (.head _)))))) | exact .tail _ (.tail _ (.tail _ (.tail _ (.tail _ (.tail _ (.tail _ (.head _))))))))) 2 infoI2 rfl rfl (by simp [Value.oneCell']) ?_; intro w2 hw2; (first | (replace hv := hv.set 0 rfl hw2) | (replace hv := hv.set 1 rfl hw2) | (replace hv := hv.set 2 rfl hw2) | (replace hv := hv.set 3 rfl hw2)); clear hw2; simp only [List.set] at hv)
    | ((with_reducible refine at_load (T := 48) ?_); refine wl_ldv rfl _ rfl _ (hv.vars.row (by first | exact .head _ | exact .tail _ (.head _) | exact .tail _ (.tail _ (.head _)) | exact .tail _ (.tail _ (.tail _ (.head _))) | exact .tail _ (.tail _ (.tail _ (.tail _ (.head _)))) | exact .tail _ (.tail _ (.tail _ (.tail _ (.tail _ (.head _))))) | exact .tail _ (.tail _ (.tail _ (.tail _ (.tail _ (.tail _ (.head _)))))) | exact .tail _ (.tail _ (.tail _ (.tail _ (.tail _ (.tail _ (.tail _ (.head _))))))))) 2 _ Tryz.underlying48 rfl infoI2 (by decide) rfl ?_)
    | ((with_reducible refine at_load (T := 28) ?_); refine wl_ldv rfl _ rfl _ (hv.vars.row (by first | exact .head _ | exact .tail _ (.head _) | exact .tail _ (.tail _ (.head _)) | exact .tail _ (.tail _ (.tail _ (.head _))) | exact .tail _ (.tail _ (.tail _ (.tail _ (.head _)))) | exact .tail _ (.tail _ (.tail _ (.tail _ (.tail _ (.head _))))) | exact .tail _ (.tail _ (.tail _ (.tail _ (.tail _ (.tail _ (.head _)))))) | exact .tail _ (.tail _ (.tail _ (.tail _ (.tail _ (.tail _ (.tail _ (.head _))))))))) 7 _ Tryz.underlying28 rfl infoT (by decide) rfl ?_)
    | ((with_reducible refine at_alloc (T := 28) (dst := some 10) ?_); refine wl_newb rfl #[.int .i64 0, .int .i64 0, .slice none 0 0, .slice none 0 0, .int .u64 0, .int .i64 0, .int .i64 0] 28 (fun _ => rfl) ?_; intro b10 w2 hm2; replace hv := hv.madeAt hm2; clear hm2)
    | ((with_reducible refine at_store (T := 28) ?_); refine wl_stv rfl b10 rfl _ rfl _ (hv.vars.row (by first | exact .head _ | exact .tail _ (.head _) | exact .tail _ (.tail _ (.head _)) | exact .tail _ (.tail _ (.tail _ (.head _))) | exact .tail _ (.tail _ (.tail _ (.tail _ (.head _)))) | exact .tail _ (.tail _ (.tail _ (.tail _ (.tail _ (.head _))))) | exact .tail _ (.tail _ (.tail _ (.tail _ (.tail _ (.tail _ (.head _)))))) | exact .tail _ (.tail _ (.tail _ (.tail _ (.tail _ (.tail _ (.tail _ (.head _))))))))) (hv.vars.sft (by first | exact .head _ | exact .tail _ (.head _) | exact .tail _ (.tail _ (.head _)) | exact .tail _ (.tail _ (.tail _ (.head _))) | exact .tail _ (.tail _ (.tail _ (.tail _ (.head _)))) | exact .tail _ (.tail _ (.tail _ (.tail _ (.tail _ (.head _))))) | exact .tail _ (.tail _ (.tail _ (.tail _ (.tail _ (.tail _ (.head _)))))) | exact .tail _ (.tail _ (.tail _ (.tail _ (.tail _ (.tail _ (.tail _ (.head _))))))))) 7 infoT rfl rfl (by simp [Value.oneCell']) ?_; intro w2 hw2; (first | (replace hv := hv.set 0 rfl hw2) | (replace hv := hv.set 1 rfl hw2) | (replace hv := hv.set 2 rfl hw2) | (replace hv := hv.set 3 rfl hw2)); clear hw2; simp only [List.set] at hv)
    | (go_at_call 18; (with_reducible refine (kG _).mono ?_); rintro e w1 ⟨rfl, hn1⟩; replace hv := hv.new hn1; clear hn1)
    | (go_at_call 19; (with_reducible refine (kA _).mono ?_); rintro e w1 ⟨rfl, hn1⟩; replace hv := hv.new hn1; clear hn1)
    | (go_at_call 12; (with_reducible refine (RPop_yes st (p : Int) sk er wk sa ca sn sc cn cc S ai d _ _ _ _ hv HSm.out HS1.out HAD.out).mono ?_); rintro e w1 ⟨pa, pn, pcp, ra, rn, rcp, rfl, hv1⟩; replace hv := hv1; clear hv1)
    | (go_at_call 20; (with_reducible refine (kL _ _ _ _ _ hv (Mem.s Mem.z) Mem.z).mono ?_); rintro e w1 ⟨wa, wn, wcp, rfl, hv1⟩; replace hv := hv1; clear hv1)
    | ((with_reducible refine at_alloc (T := 32) (dst := some 18) ?_); refine wl_newb rfl Tryz.zeroCells32 32 (fun _ => rfl) ?_; intro b18 w2 hm2; replace hv := hv.madeAt hm2; clear hm2)
    | ((with_reducible refine at_store (T := 32) ?_); refine wl_stv rfl b18 rfl _ rfl _ (hv.vars.row (by first | exact .head _ | exact .tail _ (.head _) | exact .tail _ (.tail _ (.head _)) | exact .tail _ (.tail _ (.tail _ (.head _))) | exact .tail _ (.tail _ (.tail _ (.tail _ (.head _)))) | exact .tail _ (.tail _ (.tail _ (.tail _ (.tail _ (.head _))))) | exact .tail _ (.tail _ (.tail _ (.tail _ (.tail _ (.tail _ (.head _)))))) | exact .tail _ (.tail _ (.tail _ (.tail _ (.tail _ (.tail _ (.tail _ (.head _))))))))) (hv.vars.sft (by first | exact .head _ | exact .tail _ (.head _) | exact .tail _ (.tail _ (.head _)) | exact .tail _ (.tail _ (.tail _ (.head _))) | exact .tail _ (.tail _ (.tail _ (.tail _ (.head _)))) | exact .tail _ (.tail _ (.tail _ (.tail _ (.tail _ (.head _))))) | exact .tail _ (.tail _ (.tail _ (.tail _ (.tail _ (.tail _ (.head _)))))) | exact .tail _ (.tail _ (.tail _ (.tail _ (.tail _ (.tail _ (.tail _ (.head _))))))))) 144 infoPs (size_pg _ _) (by rw [zeroPs, size_pg]) (one_pg _ _) ?_; intro w2 hw2; (first | (replace hv := hv.set 0 rfl hw2) | (replace hv := hv.set 1 rfl hw2) | (replace hv := hv.set 2 rfl hw2) | (replace hv := hv.set 3 rfl hw2)); clear hw2; simp only [List.set] at hv)
    | ((with_reducible refine at_load (T := 32) ?_); refine wl_ldv rfl _ rfl _ (hv.vars.row (by first | exact .head _ | exact .tail _ (.head _) | exact .tail _ (.tail _ (.head _)) | exact .tail _ (.tail _ (.tail _ (.head _))) | exact .tail _ (.tail _ (.tail _ (.tail _ (.head _)))) | exact .tail _ (.tail _ (.tail _ (.tail _ (.tail _ (.head _))))) | exact .tail _ (.tail _ (.tail _ (.tail _ (.tail _ (.tail _ (.head _)))))) | exact .tail _ (.tail _ (.tail _ (.tail _ (.tail _ (.tail _ (.tail _ (.head _))))))))) 144 _ Tryz.underlying32 rfl infoPs (by decide) (size_pg _ _) ?_))
  clear kC kG kA kL RP
  rw [hS0e] at hv HO HK hS0
  rw [hwse] at hv HK HSD
  have HWN := Lib.hid (len_rdU (hv.rd Mem.z))
  go_loopw [19] (fun i wr => ∃ (k : Nat) (pa : Option Addr) (pn pcp : Nat), k ≤ LL.length ∧ i = .int .i64 (k : Nat) ∧ Hid ((S0 ++ LL.take k).length ≤ 32) ∧ Mem w0 wr ([(b18, pg b q'), (b10, #[.int .i64 st, .int .i64 (p : Int), .slice pa pn pcp, .slice ca cn cc, .int .u64 (wk : Nat), .int .i64 sk, .int .i64 er]), (b9, #[.int .i64 op, .int .u64 (arg : Nat)]), (b7, Tryz.zeroCells32), (b6, #[.int .i64 0, .int .i64 0, .slice none 0 0, .slice none 0 0, .int .u64 0, .int .i64 0, .int .i64 0]), (b5, pg b q), (b4, #[.int .i64 st, .int .i64 (p : Int), .slice sa sn sc, .slice ca cn cc, .int .u64 (wk : Nat), .int .i64 sk, .int .i64 er])] ++ L) ((1, .slice pa pn pcp, cellsU (S0 ++ LL.take k)) :: (1, .slice wa wn wcp, cellsU LL) :: (1, .slice ra rn rcp, cellsU ws) :: R)) (fun i _ => LL.length - (intOf i).toNat)
  case atStart => exact ⟨0, pa, pn, pcp, Nat.zero_le _, rfl, Lib.hid (by simpa using hS0), by rw [List.take_zero, List.append_nil]; exact hv.keepR (fun y hy => (List.mem_cons.1 hy).elim (fun e => e ▸ Mem.s Mem.z) (fun hy => (List.mem_cons.1 hy).elim (fun e => e ▸ Mem.z) (fun hy => (List.mem_cons.1 hy).elim (fun e => e ▸ Mem.s (Mem.s Mem.z)) (fun hy => Mem.s (Mem.s (Mem.s hy))))))⟩
  case round =>
    clear hv
    obtain ⟨k, pa, pn, pcp, hk, rfl, HLE, hv⟩ := hrel
    by_cases hk2 : k < LL.length
    · have hki : (k : Int) < (wn : Int) := by rw [← HWN.out]; omega
      obtain ⟨x, hx⟩ : ∃ x, LL[k] = x := ⟨_, rfl⟩
      have HXK : Hid ((cellsU LL)[k]? = some (.int .u64 (x : Nat))) := Lib.hid (by simp [cellsU, List.getElem?_eq_getElem hk2, hx])
      have HTK : Hid (S0 ++ LL.take (k + 1) = S0 ++ LL.take k ++ [x]) := Lib.hid (by rw [List.take_succ_eq_append_getElem hk2, hx, List.append_assoc])
      obtain ⟨wb, wo, _, _, e, _⟩ := (hv.rd (Mem.s Mem.z)).some (by rw [cellsU_len]; omega)
      cases e
      have HWr := Lib.hid (Any.rd_start (hv.keep (List.sublist_append_left [(b18, pg b q'), (b10, #[.int .i64 st, .int .i64 (p : Int), .slice pa pn pcp, .slice ca cn cc, .int .u64 (wk : Nat), .int .i64 sk, .int .i64 er]), (b9, #[.int .i64 op, .int .u64 (arg : Nat)]), (b7, Tryz.zeroCells32), (b6, #[.int .i64 0, .int .i64 0, .slice none 0 0, .slice none 0 0, .int .u64 0, .int .i64 0, .int .i64 0]), (b5, pg b q), (b4, #[.int .i64 st, .int .i64 (p : Int), .slice sa sn sc, .slice ca cn cc, .int .u64 (wk : Nat), .int .i64 sk, .int .i64 er])] L)) (Mem.s Mem.z))
      have HSr := Lib.hid (Any.rd_start (hv.keep (List.sublist_append_left [(b18, pg b q'), (b10, #[.int .i64 st, .int .i64 (p : Int), .slice pa pn pcp, .slice ca cn cc, .int .u64 (wk : Nat), .int .i64 sk, .int .i64 er]), (b9, #[.int .i64 op, .int .u64 (arg : Nat)]), (b7, Tryz.zeroCells32), (b6, #[.int .i64 0, .int .i64 0, .slice none 0 0, .slice none 0 0, .int .u64 0, .int .i64 0, .int .i64 0]), (b5, pg b q), (b4, #[.int .i64 st, .int .i64 (p : Int), .slice sa sn sc, .slice ca cn cc, .int .u64 (wk : Nat), .int .i64 sk, .int .i64 er])] L)) Mem.z)
      have HPN := Lib.hid (len_rdU (hv.rd Mem.z))
      obtain ⟨S1, hS1⟩ : ∃ S1, S0 ++ LL.take k = S1 := ⟨_, rfl⟩
      rw [hS1] at hv HTK HSr HPN HLE
      have HLK : Hid (S1.length = S0.length + k) := Lib.hid (by rw [← hS1, List.length_append, List.length_take]; omega)
      have HKL := Lib.hid hk2
      clear hx hS1
      by_cases hfit : S1.length < 32
      · have HPU : Hid (∀ w1, Rd w1 1 (.slice pa pn pcp) (cellsU S1) → Calls Tryz.prog 10 #[.agg #[.int .i64 st, .int .i64 (p : Int), .slice pa pn pcp, .slice ca cn cc, .int .u64 (wk : Nat), .int .i64 sk, .int .i64 er], .int .u64 (x : Nat)] w1 (PushR st (p : Int) sk er wk (.slice ca cn cc) (cellsU (S1 ++ [x])) w1)) := Lib.hid (fun w1 h => RPush_row st (p : Int) sk er wk pa ca pn pcp cn cc S1 x w1 h hfit)
        have HPW : Hid (∃ v x0, PushW st (p : Int) sk er wk (.slice ca cn cc) (cellsU (S1 ++ [x])) v x0) := Lib.hid (by
          obtain ⟨v, x0, hr⟩ := Any.AppRow.some (c := cellsU (S1 ++ [x])) (k := 1) (n := S1.length + 1) (by rw [cellsU_len]; simp) (by unfold maxLen; omega)
          obtain ⟨n, cap, rfl, _⟩ := id hr
          exact ⟨_, x0, n, cap, rfl, hr⟩)
        have HFIT := Lib.hid hfit
        clear hfit hk2
        go_wp2
        refine Any.wp_region_walk [⟨[1001], none⟩, ⟨[], none⟩, ⟨[], none⟩, ⟨[], none⟩, ⟨[], none⟩, ⟨[], some 7⟩, ⟨[], none⟩, ⟨[], none⟩, ⟨[], none⟩, ⟨[], some 5⟩, ⟨[5], some 5⟩, ⟨[], none⟩] [.val, .val, .val, .val, .val, .own (PushW st (p : Int) sk er wk (.slice ca cn cc) (cellsU (S1 ++ [x]))), .pure, .pure, .pure, .lay #[.int .i64 0, .int .i64 0, .slice none 0 0, .slice none 0 0, .int .u64 0, .int .i64 0, .int .i64 0], .put, .pure] (by kernel_rfl) (by kernel_rfl) (hv.vars.keep (List.sublist_append_left [(b18, pg b q'), (b10, #[.int .i64 st, .int .i64 (p : Int), .slice pa pn pcp, .slice ca cn cc, .int .u64 (wk : Nat), .int .i64 sk, .int .i64 er]), (b9, #[.int .i64 op, .int .u64 (arg : Nat)]), (b7, Tryz.zeroCells32), (b6, #[.int .i64 0, .int .i64 0, .slice none 0 0, .slice none 0 0, .int .u64 0, .int .i64 0, .int .i64 0]), (b5, pg b q), (b4, #[.int .i64 st, .int .i64 (p : Int), .slice sa sn sc, .slice ca cn cc, .int .u64 (wk : Nat), .int .i64 sk, .int .i64 er])] L)) ?_
        simp only [List.length_cons, List.length_nil, Nat.zero_add, Any.someVals]
        iterate 12 apply Exists.intro
        repeat (first
          | (refine Any.E_off rfl ?_; simp only [Act.put, List.setIfInBounds_toArray, List.set_cons_succ, List.set_cons_zero])
          | (apply Any.E_pureq rfl rfl rfl
             case h => intro K hK; go_big_quiet_op; (refine hK _ ?_; rfl)
             case hr => exact fun _ => rfl
             simp only [Act.put, List.setIfInBounds_toArray, List.set_cons_succ, List.set_cons_zero])
          | (apply Any.E_val rfl rfl rfl rfl
             case h =>
               intro E' hA K hK
               first
                 | ((with_reducible refine Any.at_qload (T := 28) ?_); refine Any.q_ldv 1001 hA (by decide) rfl rfl 7 _ Tryz.underlying28 rfl infoT (by decide) rfl ?_; refine hK _ ?_; rfl)
                 | ((with_reducible refine Any.at_qload (T := 25) ?_); refine Any.q_rd HWr.out k rfl _ Tryz.underlying25 rfl (.int .u64 (x : Nat)) HXK.out ?_; refine hK _ ?_; rfl)
                 | (go_big_quiet_op; first
                   | (refine hK _ ?_; rfl)
                   | (refine ⟨_, fun _ _ => rfl, ?_⟩; refine hK _ ?_; rfl)
                   | (apply Exists.intro; refine ⟨fun w1 hw1 => ?_, ?_⟩; · (first
                       | fail)
                      refine hK _ ?_; rfl))
             case hD => rfl
             simp only [Act.put, List.setIfInBounds_toArray, List.set_cons_succ, List.set_cons_zero])
          | ((with_reducible refine Any.at_ealloc ?_); refine Any.E_lay rfl rfl rfl (fun _ => rfl) ?_; intro B; simp only [Act.put, List.setIfInBounds_toArray, List.set_cons_succ, List.set_cons_zero])
          | ((with_reducible refine Any.at_ecall ?_); refine Any.E_callown (W := PushW st (p : Int) sk er wk (.slice ca cn cc) (cellsU (S1 ++ [x]))) rfl rfl rfl (enters_of Tryz.func10 (by kernel_rfl) rfl) rfl [.agg #[.int .i64 st, .int .i64 (p : Int), .slice pa pn pcp, .slice ca cn cc, .int .u64 (wk : Nat), .int .i64 sk, .int .i64 er], .int .u64 (x : Nat)] rfl HPW.out (fun E' w1 hw1 => HPU.out w1 (hw1.rdold HSr.out.1 HSr.out.2)) ?_; intro v9 x9 hW9; obtain ⟨n9, c9, rfl, g9⟩ := id hW9; replace g9 := Lib.hid g9; clear hW9; simp only [Act.put, List.setIfInBounds_toArray, List.set_cons_succ, List.set_cons_zero])
          | ((with_reducible refine Any.at_estore (T := 28) ?_); refine Any.E_putv (T := 28) rfl rfl rfl rfl rfl rfl 7 infoT rfl rfl (by simp [Value.oneCell']) ?_; simp only [Act.put, List.setIfInBounds_toArray, List.set_cons_succ, List.set_cons_zero]))
        try any_goals exact undef
        refine Any.E_nil ?_
        intro w9 hE9
        replace hv : Mem w0 w9 ([(b18, pg b q'), (b10, #[.int .i64 st, .int .i64 (p : Int), .slice pa pn pcp, .slice ca cn cc, .int .u64 (wk : Nat), .int .i64 sk, .int .i64 er]), (b9, #[.int .i64 op, .int .u64 (arg : Nat)]), (b7, Tryz.zeroCells32), (b6, #[.int .i64 0, .int .i64 0, .slice none 0 0, .slice none 0 0, .int .u64 0, .int .i64 0, .int .i64 0]), (b5, pg b q), (b4, #[.int .i64 st, .int .i64 (p : Int), .slice sa sn sc, .slice ca cn cc, .int .u64 (wk : Nat), .int .i64 sk, .int .i64 er]), (B, #[.int .i64 st, .int .i64 (p : Int), .slice (some ⟨x9.1, 0, none⟩) n9 c9, .slice ca cn cc, .int .u64 (wk : Nat), .int .i64 sk, .int .i64 er]), x9] ++ L) _ := hE9.memr hv [1000, 1001, 1002, 1003, 1004, 1005, 1006, 5, 7] (by decide)
        clear hE9
        simp only [List.cons_append, List.nil_append] at hv
        replace hv := Mem.yield (L1 := [_, _, _, _, _, _, _, _]) hv g9.out
        simp only [List.cons_append, List.nil_append] at hv
        go_wp2_with (first
          | ((with_reducible refine at_load (T := 28) ?_); refine wl_ldv rfl _ rfl _ (hv.vars.row (by first | exact .head _ | exact .tail _ (.head _) | exact .tail _ (.tail _ (.head _)) | exact .tail _ (.tail _ (.tail _ (.head _))) | exact .tail _ (.tail _ (.tail _ (.tail _ (.head _)))) | exact .tail _ (.tail _ (.tail _ (.tail _ (.tail _ (.head _))))) | exact .tail _ (.tail _ (.tail _ (.tail _ (.tail _ (.tail _ (.head _)))))) | exact .tail _ (.tail _ (.tail _ (.tail _ (.tail _ (.tail _ (.tail _ (.head _))))))))) 7 _ Tryz.underlying28 rfl infoT (by decide) rfl ?_)
          | ((with_reducible refine at_store (T := 28) ?_); refine wl_stv rfl b10 rfl _ rfl _ (hv.vars.row (by first | exact .head _ | exact .tail _ (.head _) | exact .tail _ (.tail _ (.head _)) | exact .tail _ (.tail _ (.tail _ (.head _))) | exact .tail _ (.tail _ (.tail _ (.tail _ (.head _)))) | exact .tail _ (.tail _ (.tail _ (.tail _ (.tail _ (.head _))))) | exact .tail _ (.tail _ (.tail _ (.tail _ (.tail _ (.tail _ (.head _)))))) | exact .tail _ (.tail _ (.tail _ (.tail _ (.tail _ (.tail _ (.tail _ (.head _))))))))) (hv.vars.sft (by first | exact .head _ | exact .tail _ (.head _) | exact .tail _ (.tail _ (.head _)) | exact .tail _ (.tail _ (.tail _ (.head _))) | exact .tail _ (.tail _ (.tail _ (.tail _ (.head _)))) | exact .tail _ (.tail _ (.tail _ (.tail _ (.tail _ (.head _))))) | exact .tail _ (.tail _ (.tail _ (.tail _ (.tail _ (.tail _ (.head _)))))) | exact .tail _ (.tail _ (.tail _ (.tail _ (.tail _ (.tail _ (.tail _ (.head _))))))))) 7 infoT rfl rfl (by simp [Value.oneCell']) ?_; intro w2 hw2; (first | (replace hv := hv.set 0 rfl hw2) | (replace hv := hv.set 1 rfl hw2) | (replace hv := hv.set 2 rfl hw2) | (replace hv := hv.set 3 rfl hw2)); clear hw2; simp only [List.set] at hv))
        go_roundw
        case rel => exact ⟨k + 1, some ⟨x9.1, 0, none⟩, n9, c9, by have := HKL.out; omega, by go_num, Lib.hid (by rw [HTK.out, List.length_append]; have := HFIT.out; simp only [List.length_cons, List.length_nil]; omega), by rw [HTK.out]; exact (hv.keepR (fun y hy => (List.mem_cons.1 hy).elim (fun e => e ▸ Mem.z) (fun hy => Mem.s (Mem.s hy)))).keep (.cons_cons _ (.cons_cons _ (.cons_cons _ (.cons_cons _ (.cons_cons _ (.cons_cons _ (.cons_cons _ (.cons _ (List.Sublist.refl _)))))))))⟩
        case measure => simp [intOf]; have := HKL.out; omega
      · have HPU : Hid (∀ w1, Calls Tryz.prog 10 #[.agg #[.int .i64 st, .int .i64 (p : Int), .slice pa pn pcp, .slice ca cn cc, .int .u64 (wk : Nat), .int .i64 sk, .int .i64 er], .int .u64 (x : Nat)] w1 fun e w2 => e = .returned (.tuple #[.agg #[.int .i64 st, .int .i64 (p : Int), .slice pa pn pcp, .slice ca cn cc, .int .u64 (wk : Nat), .int .i64 sk, .int .i64 er], .bool false]) ∧ New w1 w2) := Lib.hid (fun w1 => RPush_no st (p : Int) sk er wk pa ca pn pcp cn cc x w1 (by have := HPN.out; omega))
        have hr := HO.out (by have := HLK.out; omega)
        subst hr
        clear hfit hk2
        go_wp2
        refine Any.wp_region_walk [⟨[1001], none⟩, ⟨[], none⟩, ⟨[], none⟩, ⟨[], none⟩, ⟨[], none⟩, ⟨[], none⟩, ⟨[], none⟩, ⟨[], none⟩, ⟨[], none⟩, ⟨[], some 5⟩, ⟨[5], some 5⟩, ⟨[], none⟩] [.val, .val, .val, .val, .val, .val, .val, .val, .val, .lay #[.int .i64 0, .int .i64 0, .slice none 0 0, .slice none 0 0, .int .u64 0, .int .i64 0, .int .i64 0], .put, .val] (by kernel_rfl) (by kernel_rfl) (hv.vars.keep (List.sublist_append_left [(b18, pg b q'), (b10, #[.int .i64 st, .int .i64 (p : Int), .slice pa pn pcp, .slice ca cn cc, .int .u64 (wk : Nat), .int .i64 sk, .int .i64 er]), (b9, #[.int .i64 op, .int .u64 (arg : Nat)]), (b7, Tryz.zeroCells32), (b6, #[.int .i64 0, .int .i64 0, .slice none 0 0, .slice none 0 0, .int .u64 0, .int .i64 0, .int .i64 0]), (b5, pg b q), (b4, #[.int .i64 st, .int .i64 (p : Int), .slice sa sn sc, .slice ca cn cc, .int .u64 (wk : Nat), .int .i64 sk, .int .i64 er])] L)) ?_
        simp only [List.length_cons, List.length_nil, Nat.zero_add, Any.someVals]
        iterate 12 apply Exists.intro
        repeat (first
          | (refine Any.E_off rfl ?_; simp only [Act.put, List.setIfInBounds_toArray, List.set_cons_succ, List.set_cons_zero])
          | (apply Any.E_pureq rfl rfl rfl
             case h => intro K hK; go_big_quiet_op; (refine hK _ ?_; rfl)
             case hr => exact fun _ => rfl
             simp only [Act.put, List.setIfInBounds_toArray, List.set_cons_succ, List.set_cons_zero])
          | (apply Any.E_val rfl rfl rfl rfl
             case h =>
               intro E' hA K hK
               first
                 | ((with_reducible refine Any.at_qload (T := 28) ?_); refine Any.q_ldv 1001 hA (by decide) rfl rfl 7 _ Tryz.underlying28 rfl infoT (by decide) rfl ?_; refine hK _ ?_; rfl)
                 | ((with_reducible refine Any.at_qload (T := 25) ?_); refine Any.q_rd HWr.out k rfl _ Tryz.underlying25 rfl (.int .u64 (x : Nat)) HXK.out ?_; refine hK _ ?_; rfl)
                 | (go_big_quiet_op; first
                   | (refine hK _ ?_; rfl)
                   | (refine ⟨_, fun _ _ => rfl, ?_⟩; refine hK _ ?_; rfl)
                   | (apply Exists.intro; refine ⟨fun w1 hw1 => ?_, ?_⟩; · (first
                       | (go_at_call 10; exact Any.calls_VE (HPU.out _) hw1))
                      refine hK _ ?_; rfl))
             case hD => rfl
             simp only [Act.put, List.setIfInBounds_toArray, List.set_cons_succ, List.set_cons_zero])
          | ((with_reducible refine Any.at_ealloc ?_); refine Any.E_lay rfl rfl rfl (fun _ => rfl) ?_; intro B; simp only [Act.put, List.setIfInBounds_toArray, List.set_cons_succ, List.set_cons_zero])
          | ((with_reducible refine Any.at_estore (T := 28) ?_); refine Any.E_putv (T := 28) rfl rfl rfl rfl rfl rfl 7 infoT rfl rfl (by simp [Value.oneCell']) ?_; simp only [Act.put, List.setIfInBounds_toArray, List.set_cons_succ, List.set_cons_zero]))
        try any_goals exact undef
        refine Any.E_nil ?_
        intro w9 hE9
        replace hv : Mem w0 w9 ([(b18, pg b q'), (b10, #[.int .i64 st, .int .i64 (p : Int), .slice pa pn pcp, .slice ca cn cc, .int .u64 (wk : Nat), .int .i64 sk, .int .i64 er]), (b9, #[.int .i64 op, .int .u64 (arg : Nat)]), (b7, Tryz.zeroCells32), (b6, #[.int .i64 0, .int .i64 0, .slice none 0 0, .slice none 0 0, .int .u64 0, .int .i64 0, .int .i64 0]), (b5, pg b q), (b4, #[.int .i64 st, .int .i64 (p : Int), .slice sa sn sc, .slice ca cn cc, .int .u64 (wk : Nat), .int .i64 sk, .int .i64 er]), (B, #[.int .i64 st, .int .i64 (p : Int), .slice pa pn pcp, .slice ca cn cc, .int .u64 (wk : Nat), .int .i64 sk, .int .i64 er])] ++ L) _ := hE9.memr hv [1000, 1001, 1002, 1003, 1004, 1005, 1006, 5] (by decide)
        clear hE9
        simp only [List.cons_append, List.nil_append] at hv
        go_wp2
        refine Any.wp_region_walk [⟨[1006], none⟩, ⟨[1005], none⟩, ⟨[1004], some 1004⟩, ⟨[1003], some 1003⟩, ⟨[], none⟩] [.val, .val, .put, .put, .val] (by kernel_rfl) (by kernel_rfl) (hv.vars.keep (List.sublist_append_left [(b18, pg b q'), (b10, #[.int .i64 st, .int .i64 (p : Int), .slice pa pn pcp, .slice ca cn cc, .int .u64 (wk : Nat), .int .i64 sk, .int .i64 er]), (b9, #[.int .i64 op, .int .u64 (arg : Nat)]), (b7, Tryz.zeroCells32), (b6, #[.int .i64 0, .int .i64 0, .slice none 0 0, .slice none 0 0, .int .u64 0, .int .i64 0, .int .i64 0]), (b5, pg b q), (b4, #[.int .i64 st, .int .i64 (p : Int), .slice sa sn sc, .slice ca cn cc, .int .u64 (wk : Nat), .int .i64 sk, .int .i64 er]), (B, #[.int .i64 st, .int .i64 (p : Int), .slice pa pn pcp, .slice ca cn cc, .int .u64 (wk : Nat), .int .i64 sk, .int .i64 er])] L)) ?_
        simp only [List.length_cons, List.length_nil, Nat.zero_add, Any.someVals]
        iterate 5 apply Exists.intro
        repeat (first
          | (refine Any.E_off rfl ?_; simp only [Act.put, List.setIfInBounds_toArray, List.set_cons_succ, List.set_cons_zero])
          | (apply Any.E_pureq rfl rfl rfl
             case h => intro K hK; go_big_quiet_op; (refine hK _ ?_; rfl)
             case hr => exact fun _ => rfl
             simp only [Act.put, List.setIfInBounds_toArray, List.set_cons_succ, List.set_cons_zero])
          | (apply Any.E_val rfl rfl rfl rfl
             case h =>
               intro E' hA K hK
               first
                 | ((with_reducible refine Any.at_qload (T := 28) ?_); refine Any.q_ldv 1006 hA (by decide) rfl rfl 7 _ Tryz.underlying28 rfl infoT (by decide) rfl ?_; refine hK _ ?_; rfl)
                 | ((with_reducible refine Any.at_qload (T := 32) ?_); refine Any.q_ldv 1005 hA (by decide) rfl rfl 144 _ Tryz.underlying32 rfl infoPs (by decide) (size_pg _ _) ?_; refine hK _ ?_; rfl)
                 | (go_big_quiet_op; first
                   | (refine hK _ ?_; rfl)
                   | (refine ⟨_, fun _ _ => rfl, ?_⟩; refine hK _ ?_; rfl)
                   | (apply Exists.intro; refine ⟨fun w1 hw1 => ?_, ?_⟩; · (first
                       | fail)
                      refine hK _ ?_; rfl))
             case hD => rfl
             simp only [Act.put, List.setIfInBounds_toArray, List.set_cons_succ, List.set_cons_zero])
          | ((with_reducible refine Any.at_ealloc ?_); refine Any.E_lay rfl rfl rfl (fun _ => rfl) ?_; intro B; simp only [Act.put, List.setIfInBounds_toArray, List.set_cons_succ, List.set_cons_zero])
          | ((with_reducible refine Any.at_estore (T := 28) ?_); refine Any.E_putv (T := 28) rfl rfl rfl rfl rfl rfl 7 infoT rfl rfl (by simp [Value.oneCell']) ?_; simp only [Act.put, List.setIfInBounds_toArray, List.set_cons_succ, List.set_cons_zero])
          | ((with_reducible refine Any.at_estore (T := 32) ?_); refine Any.E_putv (T := 32) rfl rfl rfl rfl rfl rfl 144 infoPs (size_pg _ _) (by rw [zeroPs, size_pg]) (one_pg _ _) ?_; simp only [Act.put, List.setIfInBounds_toArray, List.set_cons_succ, List.set_cons_zero]))
        try any_goals exact undef
        refine Any.E_nil ?_
        intro w9 hE9
        replace hv : Mem w0 w9 ([(b18, pg b q'), (b10, #[.int .i64 st, .int .i64 (p : Int), .slice pa pn pcp, .slice ca cn cc, .int .u64 (wk : Nat), .int .i64 sk, .int .i64 er]), (b9, #[.int .i64 op, .int .u64 (arg : Nat)]), (b7, (pg b q)), (b6, #[.int .i64 st, .int .i64 (p : Int), .slice sa sn sc, .slice ca cn cc, .int .u64 (wk : Nat), .int .i64 sk, .int .i64 er]), (b5, pg b q), (b4, #[.int .i64 st, .int .i64 (p : Int), .slice sa sn sc, .slice ca cn cc, .int .u64 (wk : Nat), .int .i64 sk, .int .i64 er]), (B, #[.int .i64 st, .int .i64 (p : Int), .slice pa pn pcp, .slice ca cn cc, .int .u64 (wk : Nat), .int .i64 sk, .int .i64 er])] ++ L) _ := hE9.memr hv [1000, 1001, 1002, 1003, 1004, 1005, 1006, 1007] (by decide)
        clear hE9
        simp only [List.cons_append, List.nil_append] at hv
        go_wp2
        refine ret_cell21 Tryz.results7 rfl (read_row _ _ 28 #[.int .i64 st, .int .i64 (p : Int), .slice sa sn sc, .slice ca cn cc, .int .u64 (wk : Nat), .int .i64 sk, .int .i64 er] (hv.vars.row (.tail _ (.tail _ (.tail _ (.tail _ (.head _)))))) 7 _ Tryz.underlying28 rfl infoT (by decide) rfl) rfl (read_row _ _ 32 (pg b q) (hv.vars.row (.tail _ (.tail _ (.tail _ (.head _))))) 144 _ Tryz.underlying32 rfl infoPs (by decide) (size_pg _ _)) rfl rfl ⟨_, _, rfl, (hv.drop.drop.drop.drop.drop.drop.drop.drop).keepR (mem_two (Mem.s (Mem.s (Mem.s HSm.out))) (Mem.s (Mem.s (Mem.s HCm.out))) (fun y hy => Mem.s (Mem.s (Mem.s hy))))⟩
    · have hki : ¬ (k : Int) < (wn : Int) := by rw [← HWN.out]; omega
      have hkL : LL.take k = LL := List.take_of_length_le (by omega)
      rw [hkL] at hv HLE
      have hr := HK.out (by have := HLE.out; rw [List.length_append] at this; exact this)
      simp only [List.cons_append, List.nil_append] at hv
      clear hk hk2 hkL hS0
      by_cases h21 : op = 21
      · obtain ⟨z, hz⟩ : ∃ z, ws.getD 0 0 = z := ⟨_, rfl⟩
        have hw1 : 1 ≤ ws.length := by rw [HSD.out]; exact HA2.out h21
        have HZ : Hid ((cellsU ws)[0]? = some (.int .u64 (z : Nat))) := Lib.hid (by
          rw [← hz, List.getD_eq_getElem?_getD, List.getElem?_eq_getElem hw1]
          simp [cellsU, List.getElem?_eq_getElem (show 0 < ws.length from hw1)])
        have qa : IntKind.i64.wrap (arg : Int) = (arg : Int) := IntWalk.i64_in _ (by have := HAR.out h21; omega)
        rw [hz] at hr
        obtain ⟨rb, ro, _, _, e, _⟩ := (hv.rd (Mem.s (Mem.s Mem.z))).some (by rw [cellsU_len]; omega)
        cases e
        have HRN := Lib.hid (len_rdU (hv.rd (Mem.s (Mem.s Mem.z))))
        have hrn : (0 : Int) < (rn : Int) := by rw [← HRN.out]; omega
        subst h21
        by_cases h0 : z = 0
        · rw [if_pos ⟨rfl, h0⟩] at hr
          subst hr
          have q0 : ((z : Int) == 0) = true := by rw [h0]; rfl
          have q0n : (z : Int) = 0 := by omega
          clear hz hw1 h0
          go_wp2_with (first
            | ((with_reducible refine at_load (T := 25) ?_); refine wl_rd rfl (hv.rd (Mem.s (Mem.s Mem.z))) 0 rfl _ Tryz.underlying25 rfl (.int .u64 (z : Nat)) HZ.out ?_)
            | ((with_reducible refine at_load (T := 25) ?_); refine wl_ldc rfl _ _ rfl _ (hv.vars.row (by first | exact .head _ | exact .tail _ (.head _) | exact .tail _ (.tail _ (.head _)) | exact .tail _ (.tail _ (.tail _ (.head _))) | exact .tail _ (.tail _ (.tail _ (.tail _ (.head _)))) | exact .tail _ (.tail _ (.tail _ (.tail _ (.tail _ (.head _))))) | exact .tail _ (.tail _ (.tail _ (.tail _ (.tail _ (.tail _ (.head _)))))) | exact .tail _ (.tail _ (.tail _ (.tail _ (.tail _ (.tail _ (.tail _ (.head _))))))))) _ Tryz.underlying25 rfl _ rfl ?_)
            | ((with_reducible refine at_store (T := 3) ?_); refine wl_stc rfl b10 1 rfl (.int .i64 ((p : Int) + 1)) rfl _ (hv.vars.row (by first | exact .head _ | exact .tail _ (.head _) | exact .tail _ (.tail _ (.head _)) | exact .tail _ (.tail _ (.tail _ (.head _))) | exact .tail _ (.tail _ (.tail _ (.tail _ (.head _)))) | exact .tail _ (.tail _ (.tail _ (.tail _ (.tail _ (.head _))))) | exact .tail _ (.tail _ (.tail _ (.tail _ (.tail _ (.tail _ (.head _)))))) | exact .tail _ (.tail _ (.tail _ (.tail _ (.tail _ (.tail _ (.tail _ (.head _))))))))) (hv.vars.sft (by first | exact .head _ | exact .tail _ (.head _) | exact .tail _ (.tail _ (.head _)) | exact .tail _ (.tail _ (.tail _ (.head _))) | exact .tail _ (.tail _ (.tail _ (.tail _ (.head _)))) | exact .tail _ (.tail _ (.tail _ (.tail _ (.tail _ (.head _))))) | exact .tail _ (.tail _ (.tail _ (.tail _ (.tail _ (.tail _ (.head _)))))) | exact .tail _ (.tail _ (.tail _ (.tail _ (.tail _ (.tail _ (.tail _ (.head _))))))))) (by kernel_rfl) rfl (by simp) ?_; intro w2 hw2; (first | (replace hv := hv.set 0 rfl hw2) | (replace hv := hv.set 1 rfl hw2) | (replace hv := hv.set 2 rfl hw2) | (replace hv := hv.set 3 rfl hw2)); clear hw2; simp only [List.set] at hv; simp only [List.setIfInBounds_toArray, List.set_cons_succ, List.set_cons_zero] at hv)
            | ((with_reducible refine at_store (T := 3) ?_); refine wl_stc rfl b10 1 rfl (.int .i64 (arg : Int)) rfl _ (hv.vars.row (by first | exact .head _ | exact .tail _ (.head _) | exact .tail _ (.tail _ (.head _)) | exact .tail _ (.tail _ (.tail _ (.head _))) | exact .tail _ (.tail _ (.tail _ (.tail _ (.head _)))) | exact .tail _ (.tail _ (.tail _ (.tail _ (.tail _ (.head _))))) | exact .tail _ (.tail _ (.tail _ (.tail _ (.tail _ (.tail _ (.head _)))))) | exact .tail _ (.tail _ (.tail _ (.tail _ (.tail _ (.tail _ (.tail _ (.head _))))))))) (hv.vars.sft (by first | exact .head _ | exact .tail _ (.head _) | exact .tail _ (.tail _ (.head _)) | exact .tail _ (.tail _ (.tail _ (.head _))) | exact .tail _ (.tail _ (.tail _ (.tail _ (.head _)))) | exact .tail _ (.tail _ (.tail _ (.tail _ (.tail _ (.head _))))) | exact .tail _ (.tail _ (.tail _ (.tail _ (.tail _ (.tail _ (.head _)))))) | exact .tail _ (.tail _ (.tail _ (.tail _ (.tail _ (.tail _ (.tail _ (.head _))))))))) (by kernel_rfl) rfl (by simp) ?_; intro w2 hw2; (first | (replace hv := hv.set 0 rfl hw2) | (replace hv := hv.set 1 rfl hw2) | (replace hv := hv.set 2 rfl hw2) | (replace hv := hv.set 3 rfl hw2)); clear hw2; simp only [List.set] at hv; simp only [List.setIfInBounds_toArray, List.set_cons_succ, List.set_cons_zero] at hv)
            | ((with_reducible refine at_load (T := 3) ?_); refine wl_ldc rfl _ _ rfl _ (hv.vars.row (by first | exact .head _ | exact .tail _ (.head _) | exact .tail _ (.tail _ (.head _)) | exact .tail _ (.tail _ (.tail _ (.head _))) | exact .tail _ (.tail _ (.tail _ (.tail _ (.head _)))) | exact .tail _ (.tail _ (.tail _ (.tail _ (.tail _ (.head _))))) | exact .tail _ (.tail _ (.tail _ (.tail _ (.tail _ (.tail _ (.head _)))))) | exact .tail _ (.tail _ (.tail _ (.tail _ (.tail _ (.tail _ (.tail _ (.head _))))))))) _ Tryz.underlying3 rfl _ rfl ?_))
          refine Any.wp_region_walk [⟨[1001], none⟩, ⟨[1000], none⟩, ⟨[1004], some 1004⟩, ⟨[1003], some 1003⟩, ⟨[], none⟩] [.val, .val, .put, .put, .val] (by kernel_rfl) (by kernel_rfl) (hv.vars.keep (List.sublist_append_left [(b18, pg b q'), (b10, #[.int .i64 st, .int .i64 (arg : Int), .slice pa pn pcp, .slice ca cn cc, .int .u64 (wk : Nat), .int .i64 sk, .int .i64 er]), (b9, #[.int .i64 21, .int .u64 (arg : Nat)]), (b7, Tryz.zeroCells32), (b6, #[.int .i64 0, .int .i64 0, .slice none 0 0, .slice none 0 0, .int .u64 0, .int .i64 0, .int .i64 0]), (b5, pg b q), (b4, #[.int .i64 st, .int .i64 (p : Int), .slice sa sn sc, .slice ca cn cc, .int .u64 (wk : Nat), .int .i64 sk, .int .i64 er])] L)) ?_
          simp only [List.length_cons, List.length_nil, Nat.zero_add, Any.someVals]
          iterate 5 apply Exists.intro
          repeat (first
            | (refine Any.E_off rfl ?_; simp only [Act.put, List.setIfInBounds_toArray, List.set_cons_succ, List.set_cons_zero])
            | (apply Any.E_pureq rfl rfl rfl
               case h => intro K hK; go_big_quiet_op; (refine hK _ ?_; rfl)
               case hr => exact fun _ => rfl
               simp only [Act.put, List.setIfInBounds_toArray, List.set_cons_succ, List.set_cons_zero])
            | (apply Any.E_val rfl rfl rfl rfl
               case h =>
                 intro E' hA K hK
                 first
                   | ((with_reducible refine Any.at_qload (T := 28) ?_); refine Any.q_ldv 1001 hA (by decide) rfl rfl 7 _ Tryz.underlying28 rfl infoT (by decide) rfl ?_; refine hK _ ?_; rfl)
                   | ((with_reducible refine Any.at_qload (T := 32) ?_); refine Any.q_ldv 1000 hA (by decide) rfl rfl 144 _ Tryz.underlying32 rfl infoPs (by decide) (size_pg _ _) ?_; refine hK _ ?_; rfl)
                   | (go_big_quiet_op; first
                     | (refine hK _ ?_; rfl)
                     | (refine ⟨_, fun _ _ => rfl, ?_⟩; refine hK _ ?_; rfl)
                     | (apply Exists.intro; refine ⟨fun w1 hw1 => ?_, ?_⟩; · (first
                         | fail)
                        refine hK _ ?_; rfl))
               case hD => rfl
               simp only [Act.put, List.setIfInBounds_toArray, List.set_cons_succ, List.set_cons_zero])
            | ((with_reducible refine Any.at_ealloc ?_); refine Any.E_lay rfl rfl rfl (fun _ => rfl) ?_; intro B; simp only [Act.put, List.setIfInBounds_toArray, List.set_cons_succ, List.set_cons_zero])
            | ((with_reducible refine Any.at_estore (T := 28) ?_); refine Any.E_putv (T := 28) rfl rfl rfl rfl rfl rfl 7 infoT rfl rfl (by simp [Value.oneCell']) ?_; simp only [Act.put, List.setIfInBounds_toArray, List.set_cons_succ, List.set_cons_zero])
            | ((with_reducible refine Any.at_estore (T := 32) ?_); refine Any.E_putv (T := 32) rfl rfl rfl rfl rfl rfl 144 infoPs (size_pg _ _) (by rw [zeroPs, size_pg]) (one_pg _ _) ?_; simp only [Act.put, List.setIfInBounds_toArray, List.set_cons_succ, List.set_cons_zero]))
          try any_goals exact undef
          refine Any.E_nil ?_
          intro w9 hE9
          replace hv : Mem w0 w9 ([(b18, pg b q'), (b10, #[.int .i64 st, .int .i64 (arg : Int), .slice pa pn pcp, .slice ca cn cc, .int .u64 (wk : Nat), .int .i64 sk, .int .i64 er]), (b9, #[.int .i64 21, .int .u64 (arg : Nat)]), (b7, (pg b q')), (b6, #[.int .i64 st, .int .i64 (arg : Int), .slice pa pn pcp, .slice ca cn cc, .int .u64 (wk : Nat), .int .i64 sk, .int .i64 er]), (b5, pg b q), (b4, #[.int .i64 st, .int .i64 (p : Int), .slice sa sn sc, .slice ca cn cc, .int .u64 (wk : Nat), .int .i64 sk, .int .i64 er])] ++ L) _ := hE9.memr hv [1000, 1001, 1002, 1003, 1004, 1005, 1006] (by decide)
          clear hE9
          simp only [List.cons_append, List.nil_append] at hv
          go_wp2
          refine ret_cell21 Tryz.results7 rfl (read_row _ _ 28 #[.int .i64 st, .int .i64 (arg : Int), .slice pa pn pcp, .slice ca cn cc, .int .u64 (wk : Nat), .int .i64 sk, .int .i64 er] (hv.vars.row (.tail _ (.tail _ (.tail _ (.tail _ (.head _)))))) 7 _ Tryz.underlying28 rfl infoT (by decide) rfl) rfl (read_row _ _ 32 (pg b q') (hv.vars.row (.tail _ (.tail _ (.tail _ (.head _))))) 144 _ Tryz.underlying32 rfl infoPs (by decide) (size_pg _ _)) rfl rfl ⟨_, _, rfl, (hv.drop.drop.drop.drop.drop.drop.drop).keepR (mem_two Mem.z (Mem.s (Mem.s (Mem.s HCm.out))) (fun y hy => Mem.s (Mem.s (Mem.s hy))))⟩
        · rw [if_neg (fun h => h0 h.2)] at hr
          subst hr
          have q0 : ((z : Int) == 0) = false := by rw [beq_eq_false_iff_ne]; omega
          have q0n : ¬ (z : Int) = 0 := by omega
          clear hz hw1
          go_wp2_with (first
            | ((with_reducible refine at_load (T := 25) ?_); refine wl_rd rfl (hv.rd (Mem.s (Mem.s Mem.z))) 0 rfl _ Tryz.underlying25 rfl (.int .u64 (z : Nat)) HZ.out ?_)
            | ((with_reducible refine at_load (T := 25) ?_); refine wl_ldc rfl _ _ rfl _ (hv.vars.row (by first | exact .head _ | exact .tail _ (.head _) | exact .tail _ (.tail _ (.head _)) | exact .tail _ (.tail _ (.tail _ (.head _))) | exact .tail _ (.tail _ (.tail _ (.tail _ (.head _)))) | exact .tail _ (.tail _ (.tail _ (.tail _ (.tail _ (.head _))))) | exact .tail _ (.tail _ (.tail _ (.tail _ (.tail _ (.tail _ (.head _)))))) | exact .tail _ (.tail _ (.tail _ (.tail _ (.tail _ (.tail _ (.tail _ (.head _))))))))) _ Tryz.underlying25 rfl _ rfl ?_)
            | ((with_reducible refine at_store (T := 3) ?_); refine wl_stc rfl b10 1 rfl (.int .i64 ((p : Int) + 1)) rfl _ (hv.vars.row (by first | exact .head _ | exact .tail _ (.head _) | exact .tail _ (.tail _ (.head _)) | exact .tail _ (.tail _ (.tail _ (.head _))) | exact .tail _ (.tail _ (.tail _ (.tail _ (.head _)))) | exact .tail _ (.tail _ (.tail _ (.tail _ (.tail _ (.head _))))) | exact .tail _ (.tail _ (.tail _ (.tail _ (.tail _ (.tail _ (.head _)))))) | exact .tail _ (.tail _ (.tail _ (.tail _ (.tail _ (.tail _ (.tail _ (.head _))))))))) (hv.vars.sft (by first | exact .head _ | exact .tail _ (.head _) | exact .tail _ (.tail _ (.head _)) | exact .tail _ (.tail _ (.tail _ (.head _))) | exact .tail _ (.tail _ (.tail _ (.tail _ (.head _)))) | exact .tail _ (.tail _ (.tail _ (.tail _ (.tail _ (.head _))))) | exact .tail _ (.tail _ (.tail _ (.tail _ (.tail _ (.tail _ (.head _)))))) | exact .tail _ (.tail _ (.tail _ (.tail _ (.tail _ (.tail _ (.tail _ (.head _))))))))) (by kernel_rfl) rfl (by simp) ?_; intro w2 hw2; (first | (replace hv := hv.set 0 rfl hw2) | (replace hv := hv.set 1 rfl hw2) | (replace hv := hv.set 2 rfl hw2) | (replace hv := hv.set 3 rfl hw2)); clear hw2; simp only [List.set] at hv; simp only [List.setIfInBounds_toArray, List.set_cons_succ, List.set_cons_zero] at hv)
            | ((with_reducible refine at_load (T := 3) ?_); refine wl_ldc rfl _ _ rfl _ (hv.vars.row (by first | exact .head _ | exact .tail _ (.head _) | exact .tail _ (.tail _ (.head _)) | exact .tail _ (.tail _ (.tail _ (.head _))) | exact .tail _ (.tail _ (.tail _ (.tail _ (.head _)))) | exact .tail _ (.tail _ (.tail _ (.tail _ (.tail _ (.head _))))) | exact .tail _ (.tail _ (.tail _ (.tail _ (.tail _ (.tail _ (.head _)))))) | exact .tail _ (.tail _ (.tail _ (.tail _ (.tail _ (.tail _ (.tail _ (.head _))))))))) _ Tryz.underlying3 rfl _ rfl ?_))
          refine Any.wp_region_walk [⟨[1001], none⟩, ⟨[1000], none⟩, ⟨[1004], some 1004⟩, ⟨[1003], some 1003⟩, ⟨[], none⟩] [.val, .val, .put, .put, .val] (by kernel_rfl) (by kernel_rfl) (hv.vars.keep (List.sublist_append_left [(b18, pg b q'), (b10, #[.int .i64 st, .int .i64 ((p : Int) + 1), .slice pa pn pcp, .slice ca cn cc, .int .u64 (wk : Nat), .int .i64 sk, .int .i64 er]), (b9, #[.int .i64 21, .int .u64 (arg : Nat)]), (b7, Tryz.zeroCells32), (b6, #[.int .i64 0, .int .i64 0, .slice none 0 0, .slice none 0 0, .int .u64 0, .int .i64 0, .int .i64 0]), (b5, pg b q), (b4, #[.int .i64 st, .int .i64 (p : Int), .slice sa sn sc, .slice ca cn cc, .int .u64 (wk : Nat), .int .i64 sk, .int .i64 er])] L)) ?_
          simp only [List.length_cons, List.length_nil, Nat.zero_add, Any.someVals]
          iterate 5 apply Exists.intro
          repeat (first
            | (refine Any.E_off rfl ?_; simp only [Act.put, List.setIfInBounds_toArray, List.set_cons_succ, List.set_cons_zero])
            | (apply Any.E_pureq rfl rfl rfl
               case h => intro K hK; go_big_quiet_op; (refine hK _ ?_; rfl)
               case hr => exact fun _ => rfl
               simp only [Act.put, List.setIfInBounds_toArray, List.set_cons_succ, List.set_cons_zero])
            | (apply Any.E_val rfl rfl rfl rfl
               case h =>
                 intro E' hA K hK
                 first
                   | ((with_reducible refine Any.at_qload (T := 28) ?_); refine Any.q_ldv 1001 hA (by decide) rfl rfl 7 _ Tryz.underlying28 rfl infoT (by decide) rfl ?_; refine hK _ ?_; rfl)
                   | ((with_reducible refine Any.at_qload (T := 32) ?_); refine Any.q_ldv 1000 hA (by decide) rfl rfl 144 _ Tryz.underlying32 rfl infoPs (by decide) (size_pg _ _) ?_; refine hK _ ?_; rfl)
                   | (go_big_quiet_op; first
                     | (refine hK _ ?_; rfl)
                     | (refine ⟨_, fun _ _ => rfl, ?_⟩; refine hK _ ?_; rfl)
                     | (apply Exists.intro; refine ⟨fun w1 hw1 => ?_, ?_⟩; · (first
                         | fail)
                        refine hK _ ?_; rfl))
               case hD => rfl
               simp only [Act.put, List.setIfInBounds_toArray, List.set_cons_succ, List.set_cons_zero])
            | ((with_reducible refine Any.at_ealloc ?_); refine Any.E_lay rfl rfl rfl (fun _ => rfl) ?_; intro B; simp only [Act.put, List.setIfInBounds_toArray, List.set_cons_succ, List.set_cons_zero])
            | ((with_reducible refine Any.at_estore (T := 28) ?_); refine Any.E_putv (T := 28) rfl rfl rfl rfl rfl rfl 7 infoT rfl rfl (by simp [Value.oneCell']) ?_; simp only [Act.put, List.setIfInBounds_toArray, List.set_cons_succ, List.set_cons_zero])
            | ((with_reducible refine Any.at_estore (T := 32) ?_); refine Any.E_putv (T := 32) rfl rfl rfl rfl rfl rfl 144 infoPs (size_pg _ _) (by rw [zeroPs, size_pg]) (one_pg _ _) ?_; simp only [Act.put, List.setIfInBounds_toArray, List.set_cons_succ, List.set_cons_zero]))
          try any_goals exact undef
          refine Any.E_nil ?_
          intro w9 hE9
          replace hv : Mem w0 w9 ([(b18, pg b q'), (b10, #[.int .i64 st, .int .i64 ((p : Int) + 1), .slice pa pn pcp, .slice ca cn cc, .int .u64 (wk : Nat), .int .i64 sk, .int .i64 er]), (b9, #[.int .i64 21, .int .u64 (arg : Nat)]), (b7, (pg b q')), (b6, #[.int .i64 st, .int .i64 ((p : Int) + 1), .slice pa pn pcp, .slice ca cn cc, .int .u64 (wk : Nat), .int .i64 sk, .int .i64 er]), (b5, pg b q), (b4, #[.int .i64 st, .int .i64 (p : Int), .slice sa sn sc, .slice ca cn cc, .int .u64 (wk : Nat), .int .i64 sk, .int .i64 er])] ++ L) _ := hE9.memr hv [1000, 1001, 1002, 1003, 1004, 1005, 1006] (by decide)
          clear hE9
          simp only [List.cons_append, List.nil_append] at hv
          go_wp2
          refine ret_cell21 Tryz.results7 rfl (read_row _ _ 28 #[.int .i64 st, .int .i64 ((p : Int) + 1), .slice pa pn pcp, .slice ca cn cc, .int .u64 (wk : Nat), .int .i64 sk, .int .i64 er] (hv.vars.row (.tail _ (.tail _ (.tail _ (.tail _ (.head _)))))) 7 _ Tryz.underlying28 rfl infoT (by decide) rfl) rfl (read_row _ _ 32 (pg b q') (hv.vars.row (.tail _ (.tail _ (.tail _ (.head _))))) 144 _ Tryz.underlying32 rfl infoPs (by decide) (size_pg _ _)) rfl rfl ⟨_, _, rfl, (hv.drop.drop.drop.drop.drop.drop.drop).keepR (mem_two Mem.z (Mem.s (Mem.s (Mem.s HCm.out))) (fun y hy => Mem.s (Mem.s (Mem.s hy))))⟩
      · rw [if_neg (fun h => h21 h.1)] at hr
        subst hr
        have q0 : (op == 21) = false := beq_eq_false_iff_ne.2 h21
        clear h21
        go_wp2_with (first
          | ((with_reducible refine at_store (T := 3) ?_); refine wl_stc rfl b10 1 rfl (.int .i64 ((p : Int) + 1)) rfl _ (hv.vars.row (by first | exact .head _ | exact .tail _ (.head _) | exact .tail _ (.tail _ (.head _)) | exact .tail _ (.tail _ (.tail _ (.head _))) | exact .tail _ (.tail _ (.tail _ (.tail _ (.head _)))) | exact .tail _ (.tail _ (.tail _ (.tail _ (.tail _ (.head _))))) | exact .tail _ (.tail _ (.tail _ (.tail _ (.tail _ (.tail _ (.head _)))))) | exact .tail _ (.tail _ (.tail _ (.tail _ (.tail _ (.tail _ (.tail _ (.head _))))))))) (hv.vars.sft (by first | exact .head _ | exact .tail _ (.head _) | exact .tail _ (.tail _ (.head _)) | exact .tail _ (.tail _ (.tail _ (.head _))) | exact .tail _ (.tail _ (.tail _ (.tail _ (.head _)))) | exact .tail _ (.tail _ (.tail _ (.tail _ (.tail _ (.head _))))) | exact .tail _ (.tail _ (.tail _ (.tail _ (.tail _ (.tail _ (.head _)))))) | exact .tail _ (.tail _ (.tail _ (.tail _ (.tail _ (.tail _ (.tail _ (.head _))))))))) (by kernel_rfl) rfl (by simp) ?_; intro w2 hw2; (first | (replace hv := hv.set 0 rfl hw2) | (replace hv := hv.set 1 rfl hw2) | (replace hv := hv.set 2 rfl hw2) | (replace hv := hv.set 3 rfl hw2)); clear hw2; simp only [List.set] at hv; simp only [List.setIfInBounds_toArray, List.set_cons_succ, List.set_cons_zero] at hv)
          | ((with_reducible refine at_load (T := 3) ?_); refine wl_ldc rfl _ _ rfl _ (hv.vars.row (by first | exact .head _ | exact .tail _ (.head _) | exact .tail _ (.tail _ (.head _)) | exact .tail _ (.tail _ (.tail _ (.head _))) | exact .tail _ (.tail _ (.tail _ (.tail _ (.head _)))) | exact .tail _ (.tail _ (.tail _ (.tail _ (.tail _ (.head _))))) | exact .tail _ (.tail _ (.tail _ (.tail _ (.tail _ (.tail _ (.head _)))))) | exact .tail _ (.tail _ (.tail _ (.tail _ (.tail _ (.tail _ (.tail _ (.head _))))))))) _ Tryz.underlying3 rfl _ rfl ?_))
        refine Any.wp_region_walk [⟨[1001], none⟩, ⟨[1000], none⟩, ⟨[1004], some 1004⟩, ⟨[1003], some 1003⟩, ⟨[], none⟩] [.val, .val, .put, .put, .val] (by kernel_rfl) (by kernel_rfl) (hv.vars.keep (List.sublist_append_left [(b18, pg b q'), (b10, #[.int .i64 st, .int .i64 ((p : Int) + 1), .slice pa pn pcp, .slice ca cn cc, .int .u64 (wk : Nat), .int .i64 sk, .int .i64 er]), (b9, #[.int .i64 op, .int .u64 (arg : Nat)]), (b7, Tryz.zeroCells32), (b6, #[.int .i64 0, .int .i64 0, .slice none 0 0, .slice none 0 0, .int .u64 0, .int .i64 0, .int .i64 0]), (b5, pg b q), (b4, #[.int .i64 st, .int .i64 (p : Int), .slice sa sn sc, .slice ca cn cc, .int .u64 (wk : Nat), .int .i64 sk, .int .i64 er])] L)) ?_
        simp only [List.length_cons, List.length_nil, Nat.zero_add, Any.someVals]
        iterate 5 apply Exists.intro
        repeat (first
          | (refine Any.E_off rfl ?_; simp only [Act.put, List.setIfInBounds_toArray, List.set_cons_succ, List.set_cons_zero])
          | (apply Any.E_pureq rfl rfl rfl
             case h => intro K hK; go_big_quiet_op; (refine hK _ ?_; rfl)
             case hr => exact fun _ => rfl
             simp only [Act.put, List.setIfInBounds_toArray, List.set_cons_succ, List.set_cons_zero])
          | (apply Any.E_val rfl rfl rfl rfl
             case h =>
               intro E' hA K hK
               first
                 | ((with_reducible refine Any.at_qload (T := 28) ?_); refine Any.q_ldv 1001 hA (by decide) rfl rfl 7 _ Tryz.underlying28 rfl infoT (by decide) rfl ?_; refine hK _ ?_; rfl)
                 | ((with_reducible refine Any.at_qload (T := 32) ?_); refine Any.q_ldv 1000 hA (by decide) rfl rfl 144 _ Tryz.underlying32 rfl infoPs (by decide) (size_pg _ _) ?_; refine hK _ ?_; rfl)
                 | (go_big_quiet_op; first
                   | (refine hK _ ?_; rfl)
                   | (refine ⟨_, fun _ _ => rfl, ?_⟩; refine hK _ ?_; rfl)
                   | (apply Exists.intro; refine ⟨fun w1 hw1 => ?_, ?_⟩; · (first
                       | fail)
                      refine hK _ ?_; rfl))
             case hD => rfl
             simp only [Act.put, List.setIfInBounds_toArray, List.set_cons_succ, List.set_cons_zero])
          | ((with_reducible refine Any.at_ealloc ?_); refine Any.E_lay rfl rfl rfl (fun _ => rfl) ?_; intro B; simp only [Act.put, List.setIfInBounds_toArray, List.set_cons_succ, List.set_cons_zero])
          | ((with_reducible refine Any.at_estore (T := 28) ?_); refine Any.E_putv (T := 28) rfl rfl rfl rfl rfl rfl 7 infoT rfl rfl (by simp [Value.oneCell']) ?_; simp only [Act.put, List.setIfInBounds_toArray, List.set_cons_succ, List.set_cons_zero])
          | ((with_reducible refine Any.at_estore (T := 32) ?_); refine Any.E_putv (T := 32) rfl rfl rfl rfl rfl rfl 144 infoPs (size_pg _ _) (by rw [zeroPs, size_pg]) (one_pg _ _) ?_; simp only [Act.put, List.setIfInBounds_toArray, List.set_cons_succ, List.set_cons_zero]))
        try any_goals exact undef
        refine Any.E_nil ?_
        intro w9 hE9
        replace hv : Mem w0 w9 ([(b18, pg b q'), (b10, #[.int .i64 st, .int .i64 ((p : Int) + 1), .slice pa pn pcp, .slice ca cn cc, .int .u64 (wk : Nat), .int .i64 sk, .int .i64 er]), (b9, #[.int .i64 op, .int .u64 (arg : Nat)]), (b7, (pg b q')), (b6, #[.int .i64 st, .int .i64 ((p : Int) + 1), .slice pa pn pcp, .slice ca cn cc, .int .u64 (wk : Nat), .int .i64 sk, .int .i64 er]), (b5, pg b q), (b4, #[.int .i64 st, .int .i64 (p : Int), .slice sa sn sc, .slice ca cn cc, .int .u64 (wk : Nat), .int .i64 sk, .int .i64 er])] ++ L) _ := hE9.memr hv [1000, 1001, 1002, 1003, 1004, 1005, 1006] (by decide)
        clear hE9
        simp only [List.cons_append, List.nil_append] at hv
        go_wp2
        refine ret_cell21 Tryz.results7 rfl (read_row _ _ 28 #[.int .i64 st, .int .i64 ((p : Int) + 1), .slice pa pn pcp, .slice ca cn cc, .int .u64 (wk : Nat), .int .i64 sk, .int .i64 er] (hv.vars.row (.tail _ (.tail _ (.tail _ (.tail _ (.head _)))))) 7 _ Tryz.underlying28 rfl infoT (by decide) rfl) rfl (read_row _ _ 32 (pg b q') (hv.vars.row (.tail _ (.tail _ (.tail _ (.head _))))) 144 _ Tryz.underlying32 rfl infoPs (by decide) (size_pg _ _)) rfl rfl ⟨_, _, rfl, (hv.drop.drop.drop.drop.drop.drop.drop).keepR (mem_two Mem.z (Mem.s (Mem.s (Mem.s HCm.out))) (fun y hy => Mem.s (Mem.s (Mem.s hy))))⟩
end Go.Proofs.YthpodinbbmgfoaaGreat
end

section
/-
  What the reference's Do answers.
-/
set_option linter.unusedVariables false
set_option linter.unusedSimpArgs false
namespace Go.Proofs.Ip
open Go Go.RowKit Go.Proofs.Cd Go.Proofs.Pg
/-- What the reference leaves: where nothing may be divided, a word that nobody reads. -/
def rleftL (op : Int) (arg : Nat) (S ws : List Nat) (b : Nat → Bool) (q : Nat → Nat → Nat) : List Nat := if (op = 9 ∨ op = 10) ∧ ws.getD 1 0 = 0 then [0] else leftL op arg S ws b q
theorem take_two {c : List Value} {i : Nat} {u v : Value} (h0 : c[i]? = some u) (h1 : c[i + 1]? = some v) : (c.drop i).take 2 = [u, v] := by
  apply List.ext_getElem?
  intro j
  rw [List.getElem?_take, List.getElem?_drop]
  match j with
  | 0 => rw [if_pos (by omega)]; exact h0
  | 1 => rw [if_pos (by omega)]; exact h1
  | j + 2 => rw [if_neg (by omega), List.getElem?_eq_none (by simp)]
theorem rleftL_len (op : Int) (arg : Nat) (S ws : List Nat) (b : Nat → Bool) (q : Nat → Nat → Nat) : (rleftL op arg S ws b q).length ≤ 2 := by
  unfold rleftL leftL
  repeat' split
  all_goals simp
theorem len_one {α : Type} : ∀ {l : List α}, l.length = 1 → ∃ x, l = [x]
  | [x], _ => ⟨x, rfl⟩
theorem one_ops {op : Int} (h : isOne op = true) : op = 19 ∨ op = 34 ∨ op = 35 ∨ op = 36 := by
  unfold isOne at h
  simp only [Bool.or_eq_true, beq_iff_eq] at h
  omega
theorem kinds {op : Int} (h0 : 0 ≤ op) (h37 : op ≤ 37) (hmv : isMove op = false) (h : op ≠ 1 ∧ op ≠ 2 ∧ op ≠ 21 ∧ op ≠ 3 ∧ op ≠ 4 ∧ op ≠ 5 ∧ op ≠ 25) : op = 24 ∨ isOne op = true ∨ isTwo op = true := by
  unfold isMove at hmv
  simp only [Bool.or_eq_false_iff, beq_eq_false_iff_ne] at hmv
  rcases (show op = 24 ∨ (op = 19 ∨ op = 34 ∨ op = 35 ∨ op = 36) ∨ ((6 ≤ op ∧ op ≤ 18) ∨ (26 ≤ op ∧ op ≤ 33)) by omega) with h | h | h
  · exact .inl h
  · refine .inr (.inl ?_)
    unfold isOne
    simp only [Bool.or_eq_true, beq_iff_eq]
    omega
  · refine .inr (.inr ?_)
    unfold isTwo
    simp only [Bool.or_eq_true, Bool.and_eq_true, decide_eq_true_eq]
    exact h
theorem in_two {op : Int} (h : isTwo op = true) : inN op = 2 := by
  unfold isTwo at h
  simp only [Bool.or_eq_true, Bool.and_eq_true, decide_eq_true_eq] at h
  have : ∀ k : Nat, k < 38 → isTwo (k : Int) = true → inN (k : Int) = 2 := by decide
  have := this op.toNat (by omega)
  rw [Int.toNat_of_nonneg (by omega)] at this
  exact this (by unfold isTwo; simp only [Bool.or_eq_true, Bool.and_eq_true, decide_eq_true_eq]; omega)
theorem two_one {op : Int} (h : isTwo op = true) : isOne op = false ∧ op ≠ 24 ∧ op ≠ 21 := by
  unfold isTwo at h
  simp only [Bool.or_eq_true, Bool.and_eq_true, decide_eq_true_eq] at h
  refine ⟨?_, by omega, by omega⟩
  unfold isOne
  simp only [Bool.or_eq_false_iff, beq_eq_false_iff_ne]
  omega
end Go.Proofs.Ip
namespace Go.Proofs.YthpodinbbmgfoaaGreat
open Go.Proofs.Ip Go.Proofs.Pt Go.Proofs.Pg Go.Proofs.Cd Go.RowKit
theorem rleft_any (op : Int) (arg : Nat) (b : Nat → Bool) (q : Nat → Nat → Nat) (lv sv : Value) (ws S : List Nat) (w0 w : World) (L : List (Nat × Array Value)) (R : List (Nat × Value × List Value)) (hv0 : Mem w0 w L R) (hw : (1, lv, cellsU ws) ∈ R) (hs : (1, sv, cellsU S) ∈ R)
    (h0 : 0 ≤ op) (h37 : op ≤ 37) (hmv : isMove op = false) (hws : ws.length = inN op) (hu : ∀ x ∈ ws, x < 18446744073709551616) :
    Calls Tryz.prog 20 #[.agg #[.int .i64 op, .int .u64 (arg : Nat)], lv, sv, .agg (pg b q)] w (LeftR w0 L R b (rleftL op arg S ws b q) (leftQ op ws b q) (leftE op arg S ws b)) := by
  by_cases h1 : op = 1
  · subst h1
    have e1 : rleftL 1 arg S ws b q = [arg] := by simp [rleftL, leftL]
    have e2 : leftQ 1 ws b q = q := by simp [leftQ]
    have e3 : leftE 1 arg S ws b = 0 := by simp [leftE]
    rw [e1, e2, e3]
    exact rleft_push arg b q lv sv ws S w0 w L R hv0 hw hs
  by_cases h2 : op = 2
  · subst h2
    have e1 : rleftL 2 arg S ws b q = [] := by simp [rleftL, leftL]
    have e2 : leftQ 2 ws b q = q := by simp [leftQ]
    have e3 : leftE 2 arg S ws b = 0 := by simp [leftE]
    rw [e1, e2, e3]
    exact rleft_nil2 arg b q lv sv ws S w0 w L R hv0 hw hs
  by_cases h21 : op = 21
  · subst h21
    have e1 : rleftL 21 arg S ws b q = [] := by simp [rleftL, leftL]
    have e2 : leftQ 21 ws b q = q := by simp [leftQ]
    have e3 : leftE 21 arg S ws b = 0 := by simp [leftE]
    rw [e1, e2, e3]
    exact rleft_nil21 arg b q lv sv ws S w0 w L R hv0 hw hs
  by_cases h3 : op = 3
  · subst h3
    obtain ⟨x, rfl⟩ := len_one (show ws.length = 1 from hws)
    have e1 : rleftL 3 arg S [x] b q = [x, x] := by simp [rleftL, leftL]
    have e2 : leftQ 3 [x] b q = q := by simp [leftQ]
    have e3 : leftE 3 arg S [x] b = 0 := by simp [leftE]
    rw [e1, e2, e3]
    exact rleft_dup arg b q lv sv [x] S w0 w L R hv0 hw hs x rfl
  by_cases h4 : op = 4
  · subst h4
    obtain ⟨x, y, rfl⟩ := len_two (show ws.length = 2 from hws)
    have e1 : rleftL 4 arg S [x, y] b q = [y, x] := by simp [rleftL, leftL]
    have e2 : leftQ 4 [x, y] b q = q := by simp [leftQ]
    have e3 : leftE 4 arg S [x, y] b = 0 := by simp [leftE]
    rw [e1, e2, e3]
    exact rleft_swap arg b q lv sv [x, y] S w0 w L R hv0 hw hs x y rfl
  by_cases h5 : op = 5
  · subst h5
    have e2 : leftQ 5 ws b q = q := by simp [leftQ]
    rw [e2]
    by_cases hn : S.length ≤ arg
    · have e1 : rleftL 5 arg S ws b q = [] := by simp [rleftL, leftL, hn]
      have e3 : leftE 5 arg S ws b = 300 := by simp [leftE, hn]
      rw [e1, e3]
      exact rleft_over_n arg b q lv sv ws S w0 w L R hv0 hw hs hn
    · have e1 : rleftL 5 arg S ws b q = [S.getD (S.length - 1 - arg) 0] := by simp [rleftL, leftL, hn]
      have e3 : leftE 5 arg S ws b = 0 := by simp [leftE, hn]
      rw [e1, e3]
      exact rleft_over arg b q lv sv ws S w0 w L R hv0 hw hs hn
  by_cases h25 : op = 25
  · subst h25
    obtain ⟨x, y, rfl⟩ := len_two (show ws.length = 2 from hws)
    have e1 : rleftL 25 arg S [x, y] b q = [] := by simp [rleftL, leftL]
    have e2 : leftQ 25 [x, y] b q = storeQ b q x y := by simp [leftQ]
    have e3 : leftE 25 arg S [x, y] b = loadE b x := by simp [leftE]
    rw [e1, e2, e3]
    exact rleft_store arg b q lv sv [x, y] S w0 w L R hv0 hw hs x y rfl
  have hne : op ≠ 1 ∧ op ≠ 2 ∧ op ≠ 21 ∧ op ≠ 3 ∧ op ≠ 4 ∧ op ≠ 5 ∧ op ≠ 25 := ⟨h1, h2, h21, h3, h4, h5, h25⟩
  have e2 : leftQ op ws b q = q := by unfold leftQ; rw [if_neg h25]
  rw [e2]
  rcases kinds h0 h37 hmv hne with rfl | h | h
  · obtain ⟨x, rfl⟩ := len_one (show ws.length = 1 from hws)
    have e1 : rleftL 24 arg S [x] b q = [loadV b q x] := by simp [rleftL, leftL]
    have e3 : leftE 24 arg S [x] b = loadE b x := by simp [leftE]
    rw [e1, e3]
    exact rleft_one 24 arg b q lv sv [x] S w0 w L R hv0 hw hs hne x (loadV b q x) (loadE b x) rfl (fun w' => RS_24 x (hu x (by simp)) b q w')
  · have hin : inN op = 1 := by rcases one_ops h with rfl | rfl | rfl | rfl <;> rfl
    obtain ⟨x, rfl⟩ := len_one (hws.trans hin)
    have ho := one_ops h
    have h910 : ¬ (op = 9 ∨ op = 10) := by omega
    have e1 : rleftL op arg S [x] b q = [Ip.oneF op x] := by
      unfold rleftL leftL
      rw [if_neg (fun g => h910 g.1), if_neg h1, if_neg (by omega), if_neg h3, if_neg h4, if_neg h5, if_neg (by omega), if_neg (fun g => h910 g.1), if_pos h]
      rfl
    have e3 : leftE op arg S [x] b = 0 := by
      unfold leftE
      rw [if_neg h5, if_neg (by omega), if_neg (fun g => h910 g.1)]
    rw [e1, e3]
    exact rleft_one op arg b q lv sv [x] S w0 w L R hv0 hw hs hne x (Ip.oneF op x) 0 rfl (fun w' => RSingle_any op h x (hu x (by simp)) b q w')
  · obtain ⟨x, y, rfl⟩ := len_two (hws.trans (in_two h))
    obtain ⟨ho, h24, _⟩ := two_one h
    by_cases hz : (op = 9 ∨ op = 10) ∧ y = 0
    · obtain ⟨hz1, rfl⟩ := hz
      have e1 : rleftL op arg S [x, 0] b q = [0] := by
        unfold rleftL
        rw [if_pos ⟨hz1, rfl⟩]
      have e3 : leftE op arg S [x, 0] b = 301 := by
        unfold leftE
        rw [if_neg h5, if_neg (by omega), if_pos ⟨hz1, rfl⟩]
      rw [e1, e3]
      refine rleft_two op arg b q lv sv [x, 0] S w0 w L R hv0 hw hs hne x 0 0 301 rfl (fun w' => ?_)
      rcases hz1 with rfl | rfl
      · exact RWz_9 x w'
      · exact RWz_10 x w'
    · have hz' : ¬ ((op = 9 ∨ op = 10) ∧ [x, y].getD 1 0 = 0) := hz
      have e1 : rleftL op arg S [x, y] b q = [Ip.twoF op x y] := by
        unfold rleftL leftL
        rw [if_neg hz', if_neg h1, if_neg (by omega), if_neg h3, if_neg h4, if_neg h5, if_neg h24, if_neg hz', if_neg (by rw [ho]; decide)]
        rfl
      have e3 : leftE op arg S [x, y] b = 0 := by
        unfold leftE
        rw [if_neg h5, if_neg (by omega), if_neg hz']
      rw [e1, e3]
      exact rleft_two op arg b q lv sv [x, y] S w0 w L R hv0 hw hs hne x y (Ip.twoF op x y) 0 rfl (fun w' => RWhole_any op h x y (hu x (by simp)) (hu y (by simp)) (fun g hy => hz ⟨g, hy⟩) w')
theorem RDo_any (st pc sk er : Int) (wk : Nat) (S : List Nat) (C : List Int) (sv cv lv : Value) (l : List Cd.Inst) (b : Nat → Bool) (q : Nat → Nat → Nat) (w0 w : World) (L : List (Nat × Array Value)) (R : List (Nat × Value × List Value)) (hv0 : Mem w0 w L R) (hl : (2, lv, cellsI l) ∈ R) (hg : ∀ x ∈ l, goodI x) (hs : (1, sv, cellsU S) ∈ R) (hc : (1, cv, cellsN C) ∈ R) (hu : ∀ x ∈ S, x < 18446744073709551616) :
    Calls Tryz.prog 7 #[lv, .agg (thC st pc sv cv wk sk er), .agg (pg b q)] w (DoA w0 L R b (doF l ⟨st, pc, S, C, wk, sk, er⟩ b q)) := by
  obtain ⟨sa, sn, sc, rfl, s1, _⟩ := id (hv0.rd hs)
  obtain ⟨ca, cn, cc, rfl, r1, _⟩ := id (hv0.rd hc)
  obtain ⟨la, ln, lcap, rfl, l1, _⟩ := id (hv0.rd hl)
  rw [cellsU_len, Nat.mul_one] at s1
  rw [cellsN_len, Nat.mul_one] at r1
  rw [len_cellsI] at l1
  have l2 : l.length = ln := by omega
  clear l1
  by_cases hin : inB l ⟨st, pc, S, C, wk, sk, er⟩ = true
  · have hd : doF l ⟨st, pc, S, C, wk, sk, er⟩ b q = (let x := l.getD pc.toNat (1, 0)
        if isMove x.1 then ((moveF x.1 x.2 ⟨st, pc, S, C, wk, sk, er⟩).1, q, (moveF x.1 x.2 ⟨st, pc, S, C, wk, sk, er⟩).2) else restF x.1 x.2 ⟨st, pc, S, C, wk, sk, er⟩ b q) := by unfold doF; exact if_pos hin
    rw [hd]
    unfold inB at hin
    simp only [Bool.and_eq_true, decide_eq_true_eq] at hin
    obtain ⟨⟨⟨⟨h1, h2⟩, h3⟩, h4⟩, hck⟩ := hin
    obtain ⟨p, rfl⟩ : ∃ p : Nat, pc = (p : Int) := ⟨pc.toNat, by omega⟩
    have hp : p < l.length := by omega
    obtain ⟨op, arg, hx⟩ : ∃ op arg, l[p] = (op, arg) := ⟨_, _, rfl⟩
    have hgd : l.getD (p : Int).toNat (1, 0) = (op, arg) := by rw [Int.toNat_natCast, List.getD_eq_getElem?_getD, List.getElem?_eq_getElem hp, hx]; rfl
    rw [hgd]
    obtain ⟨h0, h37, hb, hn⟩ := chk_ok hck hp hx
    obtain ⟨lb, lo, _, _, e, _⟩ := (hv0.rd hl).some (by rw [len_cellsI]; omega)
    cases e
    have hi : ((cellsI l).drop (p * 2)).take 2 = [.int .i64 op, .int .u64 (arg : Nat)] := take_two (by rw [get_op l hp, hx]) (by rw [get_arg l hp, hx])
    have kC : ∀ w', Rd w' 2 (.slice (some ⟨lb, lo, none⟩) ln lcap) (cellsI l) → Calls Tryz.prog 17 #[.slice (some ⟨lb, lo, none⟩) ln lcap] w' fun e w2 => e = .returned (.bool true) ∧ New w' w2 := fun w' h => by
      have := RCheck_any (.slice (some ⟨lb, lo, none⟩) ln lcap) l w' h hg
      rwa [hck] at this
    have hp' : p < ln := by omega
    have hp2 : p < 200 := by omega
    have hs32 : sn ≤ 32 := by omega
    have hc16 : cn ≤ 16 := by omega
    dsimp only
    by_cases hm : isMove op = true
    · rw [if_pos hm]
      have hop : op = 0 ∨ op = 37 ∨ op = 23 ∨ op = 22 ∨ op = 20 := by
        unfold isMove at hm
        simp only [Bool.or_eq_true, beq_iff_eq] at hm
        rcases hm with (((h | h) | h) | h) | h <;> simp [h]
      rcases hop with rfl | rfl | rfl | rfl | rfl
      · exact rdo_moveE st sk er p wk sa ca sn sc cn cc S C lb lo ln lcap l 0 arg b q w0 w L R hv0 hl hs hc hp' hp2 hs32 hc16 hi kC (p : Int) C 310 (by decide) (fun w' L' h => goes_0 st (p : Int) sk er wk sa ca sn sc cn cc C arg w0 w' L' R h hc)
      · exact rdo_moveE st sk er p wk sa ca sn sc cn cc S C lb lo ln lcap l 37 arg b q w0 w L R hv0 hl hs hc hp' hp2 hs32 hc16 hi kC (p : Int) C 302 (by decide) (fun w' L' h => goes_37 st (p : Int) sk er wk sa ca sn sc cn cc C arg w0 w' L' R h hc)
      · by_cases hC : C = []
        · have e : moveF 23 arg ⟨st, (p : Int), S, C, wk, sk, er⟩ = (⟨st, (p : Int), S, C, wk, sk, er⟩, 310) := by unfold moveF; simp [hC]
          rw [e]
          have hcn : cn = 0 := by rw [← Nat.mul_one cn]; rw [hC] at r1; simpa using r1.symm
          exact rdo_moveE st sk er p wk sa ca sn sc cn cc S C lb lo ln lcap l 23 arg b q w0 w L R hv0 hl hs hc hp' hp2 hs32 hc16 hi kC (p : Int) C 310 (by decide) (fun w' L' h => goes_23n st (p : Int) sk er wk sa ca sn sc cn cc C arg w0 w' L' R h hc hcn)
        · have e : moveF 23 arg ⟨st, (p : Int), S, C, wk, sk, er⟩ = (⟨st, C.getLastD 0, S, C.dropLast, wk, sk, er⟩, 0) := by unfold moveF; simp [hC]
          rw [e]
          have hpos : 0 < C.length := List.length_pos_iff.2 hC
          obtain ⟨m, hm1⟩ : ∃ m, cn = m + 1 := ⟨cn - 1, by omega⟩
          exact rdo_moveO st sk er p wk sa ca sn sc cn cc S C lb lo ln lcap l 23 arg b q w0 w L R hv0 hl hs hc hp' hp2 hs32 hc16 hi kC (C.getLastD 0) C.dropLast (fun w' L' h => goes_23 st (p : Int) sk er wk sa ca sn sc cn cc C arg w0 w' L' R h hc m hm1 (by omega))
      · have ha : arg ≤ 128 := by
          have : bel 22 l.length = l.length := by unfold bel; simp
          omega
        by_cases hC : C.length = 16
        · have e : moveF 22 arg ⟨st, (p : Int), S, C, wk, sk, er⟩ = (⟨st, (p : Int), S, C, wk, sk, er⟩, 300) := by unfold moveF; simp [hC]
          rw [e]
          exact rdo_moveE st sk er p wk sa ca sn sc cn cc S C lb lo ln lcap l 22 arg b q w0 w L R hv0 hl hs hc hp' hp2 hs32 hc16 hi kC (p : Int) C 300 (by decide) (fun w' L' h => goes_22n st (p : Int) sk er wk sa ca sn sc cn cc C arg w0 w' L' R h hc (by omega))
        · have e : moveF 22 arg ⟨st, (p : Int), S, C, wk, sk, er⟩ = (⟨st, (arg : Nat), S, C ++ [(p : Int) + 1], wk, sk, er⟩, 0) := by unfold moveF; simp [hC]
          rw [e]
          exact rdo_moveO st sk er p wk sa ca sn sc cn cc S C lb lo ln lcap l 22 arg b q w0 w L R hv0 hl hs hc hp' hp2 hs32 hc16 hi kC (arg : Nat) (C ++ [(p : Int) + 1]) (fun w' L' h => goes_22 st (p : Int) sk er wk sa ca sn sc cn cc C arg w0 w' L' R h hc (by omega) (by omega) (by omega) (by omega))
      · have ha : arg ≤ 128 := by
          have : bel 20 l.length = l.length := by unfold bel; simp
          omega
        have e : moveF 20 arg ⟨st, (p : Int), S, C, wk, sk, er⟩ = (⟨st, (arg : Nat), S, C, wk, sk, er⟩, 0) := by unfold moveF; simp
        rw [e]
        exact rdo_moveO st sk er p wk sa ca sn sc cn cc S C lb lo ln lcap l 20 arg b q w0 w L R hv0 hl hs hc hp' hp2 hs32 hc16 hi kC (arg : Nat) C (fun w' L' h => goes_20 st (p : Int) sk er wk sa ca sn sc cn cc C arg w0 w' L' R h hc (by omega))
    · rw [if_neg hm]
      have hm' := b_false hm
      have ha : op = 21 → arg < 1000 := fun h => by
        subst h
        have : bel 21 l.length = l.length := by unfold bel; simp
        omega
      have kG : ∀ w', Calls Tryz.prog 18 #[.agg #[.int .i64 op, .int .u64 (arg : Nat)], .agg #[.int .i64 st, .int .i64 (p : Int), .slice sa sn sc, .slice ca cn cc, .int .u64 (wk : Nat), .int .i64 sk, .int .i64 er]] w' fun e w2 => e = .returned (.tuple #[.agg #[.int .i64 st, .int .i64 (p : Int), .slice sa sn sc, .slice ca cn cc, .int .u64 (wk : Nat), .int .i64 sk, .int .i64 er], .int .i64 0, .bool false]) ∧ New w' w2 := fun w' => goes_no st (p : Int) sk er wk sa ca sn sc cn cc op arg w' hm'
      have hai : (argsP op).1 = ((inN op : Nat) : Int) := by
        have : ∀ k : Nat, k < 38 → (argsP (k : Int)).1 = ((inN (k : Int) : Nat) : Int) := by decide
        have := this op.toNat (by omega)
        rwa [Int.toNat_of_nonneg h0] at this
      have kA : ∀ w', Calls Tryz.prog 19 #[.int .i64 op] w' fun e w2 => e = .returned (.tuple #[.int .i64 ((inN op : Nat) : Int), .int .i64 (argsP op).2]) ∧ New w' w2 := fun w' => by
        have := RArgs_any op w'
        rwa [hai] at this
      have hS : S.length = sn := by omega
      by_cases hlt : sn < inN op
      · have e : restF op arg ⟨st, (p : Int), S, C, wk, sk, er⟩ b q = (⟨st, (p : Int), S, C, wk, sk, er⟩, q, 300) := by
          unfold restF
          exact if_pos (show S.length < inN op by omega)
        rw [e]
        exact rdo_pop st sk er p wk sa ca sn sc cn cc S C lb lo ln lcap l op arg b q w0 w L R hv0 hl hs hc hp' hp2 hs32 hc16 hi kC (inN op) (argsP op).2 hlt kG kA
      · obtain ⟨d, hd2⟩ : ∃ d, d = S.length - inN op := ⟨_, rfl⟩
        have hdl : (S.drop d).length = inN op := by rw [List.length_drop]; omega
        have hud : ∀ x ∈ S.drop d, x < 18446744073709551616 := fun x hx => hu x (List.drop_sublist _ _ |>.subset hx)
        have kL := fun lv sv w' L' R' (h : Mem w0 w' L' R') h1 h2 => rleft_any op arg b q lv sv (S.drop d) (S.take d) w0 w' L' R' h h1 h2 h0 h37 hm' hdl hud
        have hR : restF op arg ⟨st, (p : Int), S, C, wk, sk, er⟩ b q = (
          let e := leftE op arg (S.take d) (S.drop d) b
          let LL := leftL op arg (S.take d) (S.drop d) b q
          if e ≠ 0 then (⟨st, (p : Int), S, C, wk, sk, er⟩, q, e) else if 32 < d + LL.length then (⟨st, (p : Int), S, C, wk, sk, er⟩, q, 300) else
          (⟨st, if op = 21 ∧ (S.drop d).getD 0 0 = 0 then (arg : Int) else (p : Int) + 1, S.take d ++ LL, C, wk, sk, er⟩, leftQ op (S.drop d) b q, 0)) := by
          unfold restF
          rw [if_neg (show ¬ S.length < (argsP op).1.toNat from (by have : inN op = (argsP op).1.toNat := rfl; omega))]
          subst hd2
          rfl
        rw [hR]
        dsimp only
        by_cases he : leftE op arg (S.take d) (S.drop d) b = 0
        · rw [if_neg (by simpa using he)]
          have h9 : ¬ ((op = 9 ∨ op = 10) ∧ (S.drop d).getD 1 0 = 0) := fun g => by
            unfold leftE at he
            rw [if_neg (by omega), if_neg (by omega), if_pos g] at he
            cases he
          have hLL : rleftL op arg (S.take d) (S.drop d) b q = leftL op arg (S.take d) (S.drop d) b q := by unfold rleftL; exact if_neg h9
          rw [he] at kL
          have htl : (S.take d).length = d := by rw [List.length_take]; omega
          refine rdo_rest st sk er p wk sa ca sn sc cn cc S C lb lo ln lcap l op arg b q w0 w L R hv0 hl hs hc hp' hp2 hs32 hc16 hi kC (inN op) d (argsP op).2 hS (by omega) (fun h => by subst h; decide) ha (rleftL op arg (S.take d) (S.drop d) b q) (rleftL_len ..) (leftQ op (S.drop d) b q) kG kA kL _ (fun h => ?_) (fun h => ?_)
          · rw [htl, hLL] at h
            exact if_pos h
          · rw [htl, hLL] at h
            rw [if_neg (by omega), hLL]
        · rw [if_pos he]
          exact rdo_left st sk er p wk sa ca sn sc cn cc S C lb lo ln lcap l op arg b q w0 w L R hv0 hl hs hc hp' hp2 hs32 hc16 hi kC (inN op) d (argsP op).2 (by omega) (by omega) (rleftL op arg (S.take d) (S.drop d) b q) (leftQ op (S.drop d) b q) _ he kG kA kL
  · have hd : doF l ⟨st, pc, S, C, wk, sk, er⟩ b q = (⟨st, pc, S, C, wk, sk, er⟩, q, 290) := by unfold doF; exact if_neg hin
    rw [hd]
    refine rdo_no st pc sk er wk sa ca sn sc cn cc S C la ln lcap l b q w0 w L R hv0 hl hs hc hg ?_
    by_cases g0 : Cd.chk l = false
    · exact .inl g0
    · refine .inr (Classical.byContradiction fun g => hin ?_)
      unfold inB
      simp only [Bool.and_eq_true, decide_eq_true_eq]
      exact ⟨⟨⟨⟨by omega, by omega⟩, by omega⟩, by omega⟩, by simpa using g0⟩
end Go.Proofs.YthpodinbbmgfoaaGreat
end

section
/-
  The walk of the statement InterpTells.
-/
set_option linter.unusedVariables false
set_option linter.unusedSimpArgs false
namespace Go
section
variable {P : Program} {ops : Array Oper} {rest : List Oper} {a : Act} {w : World} {Q : Exit → Act → World → Prop}
variable {dst : Option Tmp} {ty T : TypeId} {pos : String} {after : Array Edge} {g : Option (Nat × Bool)}
theorem wl_build {ps : Array (Nat × Operand)} (hgd : Region.wanted (⟨dst, .build T ps, ty, pos, after, g⟩ : Oper) (yielded ops a.tmps) = true) (vs : List (Nat × Value)) (hp : ps.toList.map (fun p => (p.1, a.eval p.2)) = vs) {cells : Array Value} (h : P.built T vs = some cells) (hk : wpList P ops Q rest (a.put dst (.agg cells)) w) : wpList P ops Q (⟨dst, .build T ps, ty, pos, after, g⟩ :: rest) a w := by
  refine wpList_want hgd fun K hK => ?_
  have h' := run_build (P := P) w T (ps.map fun (i, x) => (i, a.eval x)) cells (by rw [Array.toList_map, ← h, ← hp])
  unfold Oper.wp execOp
  simp only [Sem.run_bind, h', Result.andThen_ok, Sem.run_pure]
  exact hK _ _ hk
end
end Go
namespace Go.Proofs.YthpodinbbmgfoaaGreat
open Go.Proofs.Ip Go.Proofs.Pt Go.Proofs.Pg Go.Proofs.Cd Go.RowKit Go.Shelf
theorem tsmall_yes (st pc sk er : Int) (wk : Nat) (sa ca : Option Addr) (sn sc cn cc : Nat) (h1 : sn ≤ 80) (h2 : cn ≤ 80) (w : World) : Calls Tryz.prog 4 #[.agg #[.int .i64 st, .int .i64 pc, .slice sa sn sc, .slice ca cn cc, .int .u64 (wk : Nat), .int .i64 sk, .int .i64 er]] w fun e w' => e = .returned (.bool true) ∧ New w w' := by
  have q1 : decide ((sn : Int) ≤ 80) = true := decide_eq_true (by omega)
  have q2 : decide ((cn : Int) ≤ 80) = true := decide_eq_true (by omega)
  clear h1 h2
  have hv := Mem.nil w
  go_enter Tryz.func4, Tryz.ntmps4
  go_wp2_with (first
    | ((with_reducible refine at_box (T := 28) (dst := some 1) ?_); refine wl_newb rfl #[.int .i64 st, .int .i64 pc, .slice sa sn sc, .slice ca cn cc, .int .u64 (wk : Nat), .int .i64 sk, .int .i64 er] 28 (fun _ => rfl) ?_; intro b1 w2 hm2; replace hv := hv.madeAt hm2; clear hm2)
    | ((with_reducible refine at_load (T := 23) ?_); refine wl_ldc rfl _ _ rfl _ (hv.vars.row (by first | exact .head _ | exact .tail _ (.head _) | exact .tail _ (.tail _ (.head _)) | exact .tail _ (.tail _ (.tail _ (.head _))) | exact .tail _ (.tail _ (.tail _ (.tail _ (.head _)))) | exact .tail _ (.tail _ (.tail _ (.tail _ (.tail _ (.head _))))) | exact .tail _ (.tail _ (.tail _ (.tail _ (.tail _ (.tail _ (.head _)))))) | exact .tail _ (.tail _ (.tail _ (.tail _ (.tail _ (.tail _ (.tail _ (.head _))))))))) _ Tryz.underlying23 rfl _ rfl ?_)
    | ((with_reducible refine at_load (T := 24) ?_); refine wl_ldc rfl _ _ rfl _ (hv.vars.row (by first | exact .head _ | exact .tail _ (.head _) | exact .tail _ (.tail _ (.head _)) | exact .tail _ (.tail _ (.tail _ (.head _))) | exact .tail _ (.tail _ (.tail _ (.tail _ (.head _)))) | exact .tail _ (.tail _ (.tail _ (.tail _ (.tail _ (.head _))))) | exact .tail _ (.tail _ (.tail _ (.tail _ (.tail _ (.tail _ (.head _)))))) | exact .tail _ (.tail _ (.tail _ (.tail _ (.tail _ (.tail _ (.tail _ (.head _))))))))) _ Tryz.underlying24 rfl _ rfl ?_))
  go_ret
  exact ⟨rfl, hv.below⟩
theorem tsmall_no1 (st pc sk er : Int) (wk : Nat) (sa ca : Option Addr) (sn sc cn cc : Nat) (h1 : 80 < sn) (w : World) : Calls Tryz.prog 4 #[.agg #[.int .i64 st, .int .i64 pc, .slice sa sn sc, .slice ca cn cc, .int .u64 (wk : Nat), .int .i64 sk, .int .i64 er]] w fun e w' => e = .returned (.bool false) ∧ New w w' := by
  have q1 : decide ((sn : Int) ≤ 80) = false := decide_eq_false (by omega)
  clear h1
  have hv := Mem.nil w
  go_enter Tryz.func4, Tryz.ntmps4
  go_wp2_with (first
    | ((with_reducible refine at_box (T := 28) (dst := some 1) ?_); refine wl_newb rfl #[.int .i64 st, .int .i64 pc, .slice sa sn sc, .slice ca cn cc, .int .u64 (wk : Nat), .int .i64 sk, .int .i64 er] 28 (fun _ => rfl) ?_; intro b1 w2 hm2; replace hv := hv.madeAt hm2; clear hm2)
    | ((with_reducible refine at_load (T := 23) ?_); refine wl_ldc rfl _ _ rfl _ (hv.vars.row (by first | exact .head _ | exact .tail _ (.head _) | exact .tail _ (.tail _ (.head _)) | exact .tail _ (.tail _ (.tail _ (.head _))) | exact .tail _ (.tail _ (.tail _ (.tail _ (.head _)))) | exact .tail _ (.tail _ (.tail _ (.tail _ (.tail _ (.head _))))) | exact .tail _ (.tail _ (.tail _ (.tail _ (.tail _ (.tail _ (.head _)))))) | exact .tail _ (.tail _ (.tail _ (.tail _ (.tail _ (.tail _ (.tail _ (.head _))))))))) _ Tryz.underlying23 rfl _ rfl ?_)
    | ((with_reducible refine at_load (T := 24) ?_); refine wl_ldc rfl _ _ rfl _ (hv.vars.row (by first | exact .head _ | exact .tail _ (.head _) | exact .tail _ (.tail _ (.head _)) | exact .tail _ (.tail _ (.tail _ (.head _))) | exact .tail _ (.tail _ (.tail _ (.tail _ (.head _)))) | exact .tail _ (.tail _ (.tail _ (.tail _ (.tail _ (.head _))))) | exact .tail _ (.tail _ (.tail _ (.tail _ (.tail _ (.tail _ (.head _)))))) | exact .tail _ (.tail _ (.tail _ (.tail _ (.tail _ (.tail _ (.tail _ (.head _))))))))) _ Tryz.underlying24 rfl _ rfl ?_))
  go_ret
  exact ⟨rfl, hv.below⟩
theorem tsmall_no2 (st pc sk er : Int) (wk : Nat) (sa ca : Option Addr) (sn sc cn cc : Nat) (h1 : sn ≤ 80) (h2 : 80 < cn) (w : World) : Calls Tryz.prog 4 #[.agg #[.int .i64 st, .int .i64 pc, .slice sa sn sc, .slice ca cn cc, .int .u64 (wk : Nat), .int .i64 sk, .int .i64 er]] w fun e w' => e = .returned (.bool false) ∧ New w w' := by
  have q1 : decide ((sn : Int) ≤ 80) = true := decide_eq_true (by omega)
  have q2 : decide ((cn : Int) ≤ 80) = false := decide_eq_false (by omega)
  clear h1 h2
  have hv := Mem.nil w
  go_enter Tryz.func4, Tryz.ntmps4
  go_wp2_with (first
    | ((with_reducible refine at_box (T := 28) (dst := some 1) ?_); refine wl_newb rfl #[.int .i64 st, .int .i64 pc, .slice sa sn sc, .slice ca cn cc, .int .u64 (wk : Nat), .int .i64 sk, .int .i64 er] 28 (fun _ => rfl) ?_; intro b1 w2 hm2; replace hv := hv.madeAt hm2; clear hm2)
    | ((with_reducible refine at_load (T := 23) ?_); refine wl_ldc rfl _ _ rfl _ (hv.vars.row (by first | exact .head _ | exact .tail _ (.head _) | exact .tail _ (.tail _ (.head _)) | exact .tail _ (.tail _ (.tail _ (.head _))) | exact .tail _ (.tail _ (.tail _ (.tail _ (.head _)))) | exact .tail _ (.tail _ (.tail _ (.tail _ (.tail _ (.head _))))) | exact .tail _ (.tail _ (.tail _ (.tail _ (.tail _ (.tail _ (.head _)))))) | exact .tail _ (.tail _ (.tail _ (.tail _ (.tail _ (.tail _ (.tail _ (.head _))))))))) _ Tryz.underlying23 rfl _ rfl ?_)
    | ((with_reducible refine at_load (T := 24) ?_); refine wl_ldc rfl _ _ rfl _ (hv.vars.row (by first | exact .head _ | exact .tail _ (.head _) | exact .tail _ (.tail _ (.head _)) | exact .tail _ (.tail _ (.tail _ (.head _))) | exact .tail _ (.tail _ (.tail _ (.tail _ (.head _)))) | exact .tail _ (.tail _ (.tail _ (.tail _ (.tail _ (.head _))))) | exact .tail _ (.tail _ (.tail _ (.tail _ (.tail _ (.tail _ (.head _)))))) | exact .tail _ (.tail _ (.tail _ (.tail _ (.tail _ (.tail _ (.tail _ (.head _))))))))) _ Tryz.underlying24 rfl _ rfl ?_))
  go_ret
  exact ⟨rfl, hv.below⟩
theorem built_thread (a : Option Addr) (n c : Nat) : Tryz.prog.built 28 [(2, .slice a n c)] = some #[.int .i64 0, .int .i64 0, .slice a n c, .slice none 0 0, .int .u64 0, .int .i64 0, .int .i64 0] := by kernel_rfl
/-- Push, whichever. -/
def pushS (S : List Nat) (x : Nat) : List Nat := if S.length < 32 then S ++ [x] else S
def pushB (S : List Nat) : Bool := decide (S.length < 32)
theorem push_whole (st pc sk er : Int) (wk : Nat) (sa ca : Option Addr) (sn sc cn cc : Nat) (S : List Nat) (x : Nat) (w0 w : World) (L : List (Nat × Array Value)) (R : List (Nat × Value × List Value)) (hv : Mem w0 w L R) (hs : (1, .slice sa sn sc, cellsU S) ∈ R) : Calls Tryz.prog 9 #[.agg #[.int .i64 st, .int .i64 pc, .slice sa sn sc, .slice ca cn cc, .int .u64 (wk : Nat), .int .i64 sk, .int .i64 er], .int .u64 (x : Nat)] w fun e w' => ∃ pa pn pcp, e = .returned (.tuple #[.agg #[.int .i64 st, .int .i64 pc, .slice pa pn pcp, .slice ca cn cc, .int .u64 (wk : Nat), .int .i64 sk, .int .i64 er], .bool (pushB S)]) ∧ Mem w0 w' L ((1, .slice pa pn pcp, cellsU (pushS S x)) :: R) := by
  have hl := len_rdU (hv.rd hs)
  unfold pushS pushB
  by_cases h : S.length < 32
  · rw [if_pos h, decide_eq_true h]
    exact (Push_yes st pc sk er wk (.slice sa sn sc) (.slice ca cn cc) S x w ⟨ca, cn, cc, rfl⟩ (hv.rd hs) h).mono fun e w' ⟨sv', h1, h2, h3⟩ => by
      obtain ⟨pa, pn, pcp, rfl, _⟩ := id h2.1
      exact ⟨pa, pn, pcp, h1, hv.fresh h3 h2⟩
  · rw [if_neg h, decide_eq_false h]
    exact (Push_no st pc sk er wk (.slice sa sn sc) (.slice ca cn cc) S x w ⟨ca, cn, cc, rfl⟩ (hv.rd hs) (by omega)).mono fun e w' ⟨h1, h2⟩ => ⟨sa, sn, sc, h1, (hv.new h2).keepR (fun y hy => (List.mem_cons.1 hy).elim (fun e => e ▸ hs) id)⟩
theorem rpush_whole (st pc sk er : Int) (wk : Nat) (sa ca : Option Addr) (sn sc cn cc : Nat) (S : List Nat) (x : Nat) (w0 w : World) (L : List (Nat × Array Value)) (R : List (Nat × Value × List Value)) (hv : Mem w0 w L R) (hs : (1, .slice sa sn sc, cellsU S) ∈ R) : Calls Tryz.prog 10 #[.agg #[.int .i64 st, .int .i64 pc, .slice sa sn sc, .slice ca cn cc, .int .u64 (wk : Nat), .int .i64 sk, .int .i64 er], .int .u64 (x : Nat)] w fun e w' => ∃ pa pn pcp, e = .returned (.tuple #[.agg #[.int .i64 st, .int .i64 pc, .slice pa pn pcp, .slice ca cn cc, .int .u64 (wk : Nat), .int .i64 sk, .int .i64 er], .bool (pushB S)]) ∧ Mem w0 w' L ((1, .slice pa pn pcp, cellsU (pushS S x)) :: R) := by
  have hl := len_rdU (hv.rd hs)
  unfold pushS pushB
  by_cases h : S.length < 32
  · rw [if_pos h, decide_eq_true h]
    exact (RPush_row st pc sk er wk sa ca sn sc cn cc S x w (hv.rd hs) h).mono fun e w' ⟨v, x0, h1, ⟨n, cap, h2, hr⟩, h3, h4, h5, h6⟩ => ⟨_, n, cap, by rw [h1, h2], Mem.yield (L1 := []) (hv.lay h4 h3 h5 h6) hr⟩
  · rw [if_neg h, decide_eq_false h]
    exact (RPush_no st pc sk er wk sa ca sn sc cn cc x w (by omega)).mono fun e w' ⟨h1, h2⟩ => ⟨sa, sn, sc, h1, (hv.new h2).keepR (fun y hy => (List.mem_cons.1 hy).elim (fun e => e ▸ hs) id)⟩
/-- Pop, whichever. -/
def popB (S : List Nat) (k : Int) : Bool := decide (0 ≤ k ∧ k ≤ S.length)
def popA (S : List Nat) (k : Int) : List Nat := if 0 ≤ k ∧ k ≤ S.length then S.take (S.length - k.toNat) else S
def popL (S : List Nat) (k : Int) : List Nat := if 0 ≤ k ∧ k ≤ S.length then S.drop (S.length - k.toNat) else []
theorem pop_whole (st pc sk er : Int) (wk : Nat) (sa ca : Option Addr) (sn sc cn cc : Nat) (S : List Nat) (k : Int) (w0 w : World) (L : List (Nat × Array Value)) (R : List (Nat × Value × List Value)) (hv : Mem w0 w L R) (hs : (1, .slice sa sn sc, cellsU S) ∈ R) (hS : S.length ≤ 1000) (hk1 : -9223372036854775808 ≤ k) (hk2 : k ≤ 9223372036854775807) : Calls Tryz.prog 11 #[.agg #[.int .i64 st, .int .i64 pc, .slice sa sn sc, .slice ca cn cc, .int .u64 (wk : Nat), .int .i64 sk, .int .i64 er], .int .i64 k] w fun e w' => ∃ pa pn pcp ra rn rcp, e = .returned (.tuple #[.agg #[.int .i64 st, .int .i64 pc, .slice pa pn pcp, .slice ca cn cc, .int .u64 (wk : Nat), .int .i64 sk, .int .i64 er], .slice ra rn rcp, .bool (popB S k)]) ∧ Mem w0 w' L ((1, .slice pa pn pcp, cellsU (popA S k)) :: (1, .slice ra rn rcp, cellsU (popL S k)) :: R) := by
  have hl := len_rdU (hv.rd hs)
  unfold popA popB popL
  by_cases h : 0 ≤ k ∧ k ≤ S.length
  · rw [if_pos h, if_pos h, decide_eq_true h]
    obtain ⟨m, rfl⟩ : ∃ m : Nat, k = (m : Int) := ⟨k.toNat, by omega⟩
    rw [Int.toNat_natCast]
    exact (Pop_yes st pc sk er wk (.slice sa sn sc) (.slice ca cn cc) S m w ⟨ca, cn, cc, rfl⟩ (hv.rd hs) hS (by omega)).mono fun e w' ⟨sv', wv, h1, h2, h3, h4⟩ => by
      obtain ⟨pa, pn, pcp, rfl, _⟩ := id h2.1
      obtain ⟨ra, rn, rcp, rfl, _⟩ := id h3.1
      exact ⟨pa, pn, pcp, ra, rn, rcp, h1, hv.freshs (Z := [(1, _, _), (1, _, _)]) h4 (fun z hz => (List.mem_cons.1 hz).elim (fun e => e ▸ h2) (fun hz => (List.mem_cons.1 hz).elim (fun e => e ▸ h3) (fun hz => (List.not_mem_nil hz).elim)))⟩
  · rw [if_neg h, if_neg h, decide_eq_false h]
    exact (Pop_no st pc sk er wk (.slice sa sn sc) (.slice ca cn cc) S k w ⟨ca, cn, cc, rfl⟩ (hv.rd hs) hS hk1 hk2 (by omega)).mono fun e w' ⟨h1, h2⟩ => ⟨sa, sn, sc, none, 0, 0, h1, ((hv.new h2).fresh (Below.refl _ _) (FR.nil _ _ 1)).keepR (mem_two (Mem.s hs) Mem.z (fun y hy => Mem.s hy))⟩
theorem rpop_whole (st pc sk er : Int) (wk : Nat) (sa ca : Option Addr) (sn sc cn cc : Nat) (S : List Nat) (k : Int) (w0 w : World) (L : List (Nat × Array Value)) (R : List (Nat × Value × List Value)) (hv : Mem w0 w L R) (hs : (1, .slice sa sn sc, cellsU S) ∈ R) (hS : S.length ≤ 1000) (hk1 : -9223372036854775808 ≤ k) (hk2 : k ≤ 9223372036854775807) : Calls Tryz.prog 12 #[.agg #[.int .i64 st, .int .i64 pc, .slice sa sn sc, .slice ca cn cc, .int .u64 (wk : Nat), .int .i64 sk, .int .i64 er], .int .i64 k] w fun e w' => ∃ pa pn pcp ra rn rcp, e = .returned (.tuple #[.agg #[.int .i64 st, .int .i64 pc, .slice pa pn pcp, .slice ca cn cc, .int .u64 (wk : Nat), .int .i64 sk, .int .i64 er], .slice ra rn rcp, .bool (popB S k)]) ∧ Mem w0 w' L ((1, .slice pa pn pcp, cellsU (popA S k)) :: (1, .slice ra rn rcp, cellsU (popL S k)) :: R) := by
  have hl := len_rdU (hv.rd hs)
  unfold popA popB popL
  by_cases h : 0 ≤ k ∧ k ≤ S.length
  · rw [if_pos h, if_pos h, decide_eq_true h]
    obtain ⟨m, rfl⟩ : ∃ m : Nat, k = (m : Int) := ⟨k.toNat, by omega⟩
    rw [Int.toNat_natCast]
    exact RPop_yes st pc sk er wk sa ca sn sc cn cc S m (S.length - m) w0 w L R hv hs hS (by omega)
  · rw [if_neg h, if_neg h, decide_eq_false h]
    exact (RPop_no st pc sk er wk sa ca sn sc cn cc k w (by omega)).mono fun e w' ⟨h1, h2⟩ => ⟨sa, sn, sc, none, 0, 0, h1, ((hv.new h2).fresh (Below.refl _ _) (FR.nil _ _ 1)).keepR (mem_two (Mem.s hs) Mem.z (fun y hy => Mem.s hy))⟩
theorem One_tell (st pc sk er : Int) (wk : Nat) (sa ca : Option Addr) (sn sc cn cc : Nat) (ua ya : Option Addr) (un uc yn yc : Nat) (S : List Nat) (C : List Int) (w : World) (h1 : Rd w 1 (.slice sa sn sc) (cellsU S)) (h2 : Rd w 1 (.slice ua un uc) (cellsU S)) (h3 : Rd w 1 (.slice ca cn cc) (cellsN C)) (h4 : Rd w 1 (.slice ya yn yc) (cellsN C)) :
    Calls Tryz.prog 8 #[.agg #[.int .i64 st, .int .i64 pc, .slice sa sn sc, .slice ca cn cc, .int .u64 (wk : Nat), .int .i64 sk, .int .i64 er], .agg #[.int .i64 st, .int .i64 pc, .slice ua un uc, .slice ya yn yc, .int .u64 (wk : Nat), .int .i64 sk, .int .i64 er]] w fun e w' => e = .returned (.bool true) ∧ New w w' := One_same st pc sk er wk S C _ _ _ _ w h1 h2 h3 h4
theorem One_zero (sa : Option Addr) (sn sc : Nat) (ua : Option Addr) (un uc : Nat) (S : List Nat) (w : World) (h1 : Rd w 1 (.slice sa sn sc) (cellsU S)) (h2 : Rd w 1 (.slice ua un uc) (cellsU S)) :
    Calls Tryz.prog 8 #[.agg #[.int .i64 0, .int .i64 0, .slice sa sn sc, .slice none 0 0, .int .u64 0, .int .i64 0, .int .i64 0], .agg #[.int .i64 0, .int .i64 0, .slice ua un uc, .slice none 0 0, .int .u64 0, .int .i64 0, .int .i64 0]] w fun e w' => e = .returned (.bool true) ∧ New w w' := One_tell 0 0 0 0 0 sa none sn sc 0 0 ua none un uc 0 0 S [] w h1 h2 (Rd.nil _ _) (Rd.nil _ _)
set_option maxRecDepth 100000 in
set_option maxHeartbeats 4000000 in
theorem Tells_out (st pc sk er : Int) (wk : Nat) (sa ca : Option Addr) (sn sc cn cc : Nat) (la : Option Addr) (ln lcap : Nat) (b : Nat → Bool) (q : Nat → Nat → Nat) (x : Nat) (n : Int) (wl : World) (hbad : 200 < ln ∨ 80 < sn ∨ 80 < cn) :
    Calls Tryz.prog 3 #[.slice la ln lcap, .agg #[.int .i64 st, .int .i64 pc, .slice sa sn sc, .slice ca cn cc, .int .u64 (wk : Nat), .int .i64 sk, .int .i64 er], .agg (pg b q), .int .u64 (x : Nat), .int .i64 n] wl fun e w' => e = .returned (.bool true) ∧ New wl w' := by
  have hv := Mem.nil wl
  by_cases h : 200 < ln
  · have q0 : decide ((200 : Int) < (ln : Int)) = true := decide_eq_true (by omega)
    have q0n : (200 : Int) < (ln : Int) := by omega
    clear h hbad
    go_enter Tryz.func3, Tryz.ntmps3
    go_wp2_with (first
      | ((with_reducible refine at_box (T := 28) (dst := some 6) ?_); refine wl_newb rfl #[.int .i64 st, .int .i64 pc, .slice sa sn sc, .slice ca cn cc, .int .u64 (wk : Nat), .int .i64 sk, .int .i64 er] 28 (fun _ => rfl) ?_; intro b6 w2 hm2; replace hv := hv.madeAt hm2; clear hm2)
      | ((with_reducible refine at_box (T := 32) (dst := some 7) ?_); refine wl_newb rfl (pg b q) 32 (fun _ => rfl) ?_; intro b7 w2 hm2; replace hv := hv.madeAt hm2; clear hm2)
      | (go_at_call 5; (with_reducible refine (heads30 _).mono ?_); rintro e w1 ⟨rfl, hn1⟩; replace hv := hv.new hn1; clear hn1))
    go_ret
    exact ⟨rfl, hv.below⟩
  · have q0 : decide ((200 : Int) < (ln : Int)) = false := decide_eq_false (by omega)
    have kS : ∀ w, Calls Tryz.prog 4 #[.agg #[.int .i64 st, .int .i64 pc, .slice sa sn sc, .slice ca cn cc, .int .u64 (wk : Nat), .int .i64 sk, .int .i64 er]] w fun e w' => e = .returned (.bool false) ∧ New w w' := fun w => by
      by_cases h2 : sn ≤ 80
      · exact tsmall_no2 st pc sk er wk sa ca sn sc cn cc h2 (by omega) w
      · exact tsmall_no1 st pc sk er wk sa ca sn sc cn cc (by omega) w
    clear h hbad
    go_enter Tryz.func3, Tryz.ntmps3
    go_wp2_with (first
      | ((with_reducible refine at_box (T := 28) (dst := some 6) ?_); refine wl_newb rfl #[.int .i64 st, .int .i64 pc, .slice sa sn sc, .slice ca cn cc, .int .u64 (wk : Nat), .int .i64 sk, .int .i64 er] 28 (fun _ => rfl) ?_; intro b6 w2 hm2; replace hv := hv.madeAt hm2; clear hm2)
      | ((with_reducible refine at_box (T := 32) (dst := some 7) ?_); refine wl_newb rfl (pg b q) 32 (fun _ => rfl) ?_; intro b7 w2 hm2; replace hv := hv.madeAt hm2; clear hm2)
      | ((with_reducible refine at_load (T := 28) ?_); refine wl_ldv rfl _ rfl _ (hv.vars.row (by first | exact .head _ | exact .tail _ (.head _) | exact .tail _ (.tail _ (.head _)) | exact .tail _ (.tail _ (.tail _ (.head _))) | exact .tail _ (.tail _ (.tail _ (.tail _ (.head _)))) | exact .tail _ (.tail _ (.tail _ (.tail _ (.tail _ (.head _))))) | exact .tail _ (.tail _ (.tail _ (.tail _ (.tail _ (.tail _ (.head _)))))) | exact .tail _ (.tail _ (.tail _ (.tail _ (.tail _ (.tail _ (.tail _ (.head _))))))))) 7 _ Tryz.underlying28 rfl infoT (by decide) rfl ?_)
      | (go_at_call 4; (with_reducible refine (kS _).mono ?_); rintro e w1 ⟨rfl, hn1⟩; replace hv := hv.new hn1; clear hn1)
      | (go_at_call 5; (with_reducible refine (heads30 _).mono ?_); rintro e w1 ⟨rfl, hn1⟩; replace hv := hv.new hn1; clear hn1))
    go_ret
    exact ⟨rfl, hv.below⟩
set_option maxRecDepth 100000 in
set_option maxHeartbeats 8000000 in
theorem Tells_in (st pc sk er : Int) (wk : Nat) (sa ca : Option Addr) (sn sc cn cc : Nat) (S : List Nat) (C : List Int) (la : Option Addr) (ln lcap : Nat) (l : List Cd.Inst) (b : Nat → Bool) (q : Nat → Nat → Nat) (x : Nat) (n : Int) (wl : World) (hl : Rd wl 2 (.slice la ln lcap) (cellsI l)) (hg : ∀ x ∈ l, goodI x) (hs : Rd wl 1 (.slice sa sn sc) (cellsU S)) (hc : Rd wl 1 (.slice ca cn cc) (cellsN C)) (hu : GoodS S)
    (hn1 : -9223372036854775808 ≤ n) (hn2 : n ≤ 9223372036854775807) (h1 : ln ≤ 200) (h3 : sn ≤ 80) (h4 : cn ≤ 80) : Calls Tryz.prog 3 #[.slice la ln lcap, .agg #[.int .i64 st, .int .i64 pc, .slice sa sn sc, .slice ca cn cc, .int .u64 (wk : Nat), .int .i64 sk, .int .i64 er], .agg (pg b q), .int .u64 (x : Nat), .int .i64 n] wl fun e w' => e = .returned (.bool true) ∧ New wl w' := by
  have he36 : ∀ (w : World) (b : Nat → Bool) (q : Nat → Nat → Nat), (Op.equalIn 10000 32 (.agg (pg b q)) (.agg (pg b q))).run Tryz.prog w = .ok true w := fun w b q => by rw [equalIn_pgM, samePg_self]
  have kS := tsmall_yes st pc sk er wk sa ca sn sc cn cc h3 h4
  have HS : Hid (S.length ≤ 1000) := Lib.hid (by rw [len_rdU hs]; omega)
  have HN1 := Lib.hid hn1
  have HN2 := Lib.hid hn2
  have q0 : decide ((200 : Int) < (ln : Int)) = false := decide_eq_false (by omega)
  have q0n : ¬ (200 : Int) < (ln : Int) := by omega
  have kD0 := fun w' L' R' h1 h2 h3 h4 => Do_any st pc sk er wk S C (.slice sa sn sc) (.slice ca cn cc) (.slice la ln lcap) l b q wl w' L' R' h1 h2 hg h3 h4 hu
  have kR0 := fun w' L' R' h1 h2 h3 h4 => RDo_any st pc sk er wk S C (.slice sa sn sc) (.slice ca cn cc) (.slice la ln lcap) l b q wl w' L' R' h1 h2 hg h3 h4 hu
  generalize doF l ⟨st, pc, S, C, wk, sk, er⟩ b q = r at *
  obtain ⟨⟨st', pc', S', C', wk', sk', er'⟩, q', n'⟩ := r
  have kD : ∀ (w' : World) (L' : List (Nat × Array Value)) (R' : List (Nat × Value × List Value)), Mem wl w' L' R' → (1, .slice sa sn sc, cellsU S) ∈ R' → (1, .slice ca cn cc, cellsN C) ∈ R' → (2, .slice la ln lcap, cellsI l) ∈ R' →
      Calls Tryz.prog 6 #[.slice la ln lcap, .agg #[.int .i64 st, .int .i64 pc, .slice sa sn sc, .slice ca cn cc, .int .u64 (wk : Nat), .int .i64 sk, .int .i64 er], .agg (pg b q)] w' fun e w2 => ∃ pa pn pcp ra rn rcp, e = .returned (.tuple #[.agg #[.int .i64 st', .int .i64 pc', .slice pa pn pcp, .slice ra rn rcp, .int .u64 (wk' : Nat), .int .i64 sk', .int .i64 er'], .agg (pg b q'), .int .i64 n']) ∧ Mem wl w2 L' ((1, .slice pa pn pcp, cellsU S') :: (1, .slice ra rn rcp, cellsN C') :: R') := fun w' L' R' h1 h2 h3 h4 =>
    (kD0 w' L' R' h1 h4 h2 h3).mono fun e w2 ⟨sv', cv', g1, g2⟩ => by
      obtain ⟨pa, pn, pcp, rfl, _⟩ := id (g2.rd Mem.z)
      obtain ⟨ra, rn, rcp, rfl, _⟩ := id (g2.rd (Mem.s Mem.z))
      exact ⟨pa, pn, pcp, ra, rn, rcp, g1, g2⟩
  have kR : ∀ (w' : World) (L' : List (Nat × Array Value)) (R' : List (Nat × Value × List Value)), Mem wl w' L' R' → (1, .slice sa sn sc, cellsU S) ∈ R' → (1, .slice ca cn cc, cellsN C) ∈ R' → (2, .slice la ln lcap, cellsI l) ∈ R' →
      Calls Tryz.prog 7 #[.slice la ln lcap, .agg #[.int .i64 st, .int .i64 pc, .slice sa sn sc, .slice ca cn cc, .int .u64 (wk : Nat), .int .i64 sk, .int .i64 er], .agg (pg b q)] w' fun e w2 => ∃ pa pn pcp ra rn rcp, e = .returned (.tuple #[.agg #[.int .i64 st', .int .i64 pc', .slice pa pn pcp, .slice ra rn rcp, .int .u64 (wk' : Nat), .int .i64 sk', .int .i64 er'], .agg (pg b q'), .int .i64 n']) ∧ Mem wl w2 L' ((1, .slice pa pn pcp, cellsU S') :: (1, .slice ra rn rcp, cellsN C') :: R') := fun w' L' R' h1 h2 h3 h4 =>
    (kR0 w' L' R' h1 h4 h2 h3).mono fun e w2 ⟨sv', cv', g1, g2⟩ => by
      obtain ⟨pa, pn, pcp, rfl, _⟩ := id (g2.rd Mem.z)
      obtain ⟨ra, rn, rcp, rfl, _⟩ := id (g2.rd (Mem.s Mem.z))
      exact ⟨pa, pn, pcp, ra, rn, rcp, g1, g2⟩
  have kPU := fun w' L' R' (h : Mem wl w' L' R') h1 => push_whole st pc sk er wk sa ca sn sc cn cc S x wl w' L' R' h h1
  have kRPU := fun w' L' R' (h : Mem wl w' L' R') h1 => rpush_whole st pc sk er wk sa ca sn sc cn cc S x wl w' L' R' h h1
  have kPO := fun w' L' R' (h : Mem wl w' L' R') h1 => pop_whole st pc sk er wk sa ca sn sc cn cc S n wl w' L' R' h h1 HS.out hn1 hn2
  have kRPO := fun w' L' R' (h : Mem wl w' L' R') h1 => rpop_whole st pc sk er wk sa ca sn sc cn cc S n wl w' L' R' h h1 HS.out hn1 hn2
  generalize pushS S x = SP at *
  generalize pushB S = cP at *
  generalize popA S n = SA at *
  generalize popL S n = SB at *
  generalize popB S n = cO at *
  have e1 : (n' != n') = false := by simp
  have e2 : (cP != cP) = false := by simp
  have e3 : (cO == cO) = true := by simp
  have hv := (((Mem.nil wl).old hl).old hc).old hs
  clear hl hc hs hg hu hn1 hn2 h1 h3 h4 kD0 kR0
  go_enter Tryz.func3, Tryz.ntmps3
  go_wp2_with (first
    | ((with_reducible refine at_box (T := 28) (dst := some 6) ?_); refine wl_newb rfl #[.int .i64 st, .int .i64 pc, .slice sa sn sc, .slice ca cn cc, .int .u64 (wk : Nat), .int .i64 sk, .int .i64 er] 28 (fun _ => rfl) ?_; intro b6 w2 hm2; replace hv := hv.madeAt hm2; clear hm2)
    | ((with_reducible refine at_box (T := 32) (dst := some 7) ?_); refine wl_newb rfl (pg b q) 32 (fun _ => rfl) ?_; intro b7 w2 hm2; replace hv := hv.madeAt hm2; clear hm2)
    | (go_at_call 4; (with_reducible refine (kS _).mono ?_); rintro e w1 ⟨rfl, hn1⟩; replace hv := hv.new hn1; clear hn1)
    | ((with_reducible refine at_load (T := 28) ?_); refine wl_ldv rfl b6 rfl _ (hv.vars.row (by first | exact .head _ | exact .tail _ (.head _) | exact .tail _ (.tail _ (.head _)) | exact .tail _ (.tail _ (.tail _ (.head _))) | exact .tail _ (.tail _ (.tail _ (.tail _ (.head _)))) | exact .tail _ (.tail _ (.tail _ (.tail _ (.tail _ (.head _))))) | exact .tail _ (.tail _ (.tail _ (.tail _ (.tail _ (.tail _ (.head _)))))) | exact .tail _ (.tail _ (.tail _ (.tail _ (.tail _ (.tail _ (.tail _ (.head _))))))))) 7 _ Tryz.underlying28 rfl infoT (by decide) rfl ?_)
    | ((with_reducible refine at_load (T := 28) ?_); refine wl_ldv rfl b11 rfl _ (hv.vars.row (by first | exact .head _ | exact .tail _ (.head _) | exact .tail _ (.tail _ (.head _)) | exact .tail _ (.tail _ (.tail _ (.head _))) | exact .tail _ (.tail _ (.tail _ (.tail _ (.head _)))) | exact .tail _ (.tail _ (.tail _ (.tail _ (.tail _ (.head _))))) | exact .tail _ (.tail _ (.tail _ (.tail _ (.tail _ (.tail _ (.head _)))))) | exact .tail _ (.tail _ (.tail _ (.tail _ (.tail _ (.tail _ (.tail _ (.head _))))))))) 7 _ Tryz.underlying28 rfl infoT (by decide) rfl ?_)
    | ((with_reducible refine at_load (T := 28) ?_); refine wl_ldv rfl b14 rfl _ (hv.vars.row (by first | exact .head _ | exact .tail _ (.head _) | exact .tail _ (.tail _ (.head _)) | exact .tail _ (.tail _ (.tail _ (.head _))) | exact .tail _ (.tail _ (.tail _ (.tail _ (.head _)))) | exact .tail _ (.tail _ (.tail _ (.tail _ (.tail _ (.head _))))) | exact .tail _ (.tail _ (.tail _ (.tail _ (.tail _ (.tail _ (.head _)))))) | exact .tail _ (.tail _ (.tail _ (.tail _ (.tail _ (.tail _ (.tail _ (.head _))))))))) 7 _ Tryz.underlying28 rfl infoT (by decide) rfl ?_)
    | ((with_reducible refine at_load (T := 32) ?_); refine wl_ldv rfl b7 rfl _ (hv.vars.row (by first | exact .head _ | exact .tail _ (.head _) | exact .tail _ (.tail _ (.head _)) | exact .tail _ (.tail _ (.tail _ (.head _))) | exact .tail _ (.tail _ (.tail _ (.tail _ (.head _)))) | exact .tail _ (.tail _ (.tail _ (.tail _ (.tail _ (.head _))))) | exact .tail _ (.tail _ (.tail _ (.tail _ (.tail _ (.tail _ (.head _)))))) | exact .tail _ (.tail _ (.tail _ (.tail _ (.tail _ (.tail _ (.tail _ (.head _))))))))) 144 _ Tryz.underlying32 rfl infoPs (by decide) (size_pg _ _) ?_)
    | ((with_reducible refine at_load (T := 32) ?_); refine wl_ldv rfl b12 rfl _ (hv.vars.row (by first | exact .head _ | exact .tail _ (.head _) | exact .tail _ (.tail _ (.head _)) | exact .tail _ (.tail _ (.tail _ (.head _))) | exact .tail _ (.tail _ (.tail _ (.tail _ (.head _)))) | exact .tail _ (.tail _ (.tail _ (.tail _ (.tail _ (.head _))))) | exact .tail _ (.tail _ (.tail _ (.tail _ (.tail _ (.tail _ (.head _)))))) | exact .tail _ (.tail _ (.tail _ (.tail _ (.tail _ (.tail _ (.tail _ (.head _))))))))) 144 _ Tryz.underlying32 rfl infoPs (by decide) (size_pg _ _) ?_)
    | ((with_reducible refine at_load (T := 32) ?_); refine wl_ldv rfl b15 rfl _ (hv.vars.row (by first | exact .head _ | exact .tail _ (.head _) | exact .tail _ (.tail _ (.head _)) | exact .tail _ (.tail _ (.tail _ (.head _))) | exact .tail _ (.tail _ (.tail _ (.tail _ (.head _)))) | exact .tail _ (.tail _ (.tail _ (.tail _ (.tail _ (.head _))))) | exact .tail _ (.tail _ (.tail _ (.tail _ (.tail _ (.tail _ (.head _)))))) | exact .tail _ (.tail _ (.tail _ (.tail _ (.tail _ (.tail _ (.tail _ (.head _))))))))) 144 _ Tryz.underlying32 rfl infoPs (by decide) (size_pg _ _) ?_)
    | ((with_reducible refine at_alloc (T := 28) (dst := some 11) ?_); refine wl_newb rfl #[.int .i64 0, .int .i64 0, .slice none 0 0, .slice none 0 0, .int .u64 0, .int .i64 0, .int .i64 0] 28 (fun _ => rfl) ?_; intro b11 w2 hm2; replace hv := hv.madeAt hm2; clear hm2)
    | ((with_reducible refine at_alloc (T := 32) (dst := some 12) ?_); refine wl_newb rfl Tryz.zeroCells32 32 (fun _ => rfl) ?_; intro b12 w2 hm2; replace hv := hv.madeAt hm2; clear hm2)
    | ((with_reducible refine at_alloc (T := 28) (dst := some 14) ?_); refine wl_newb rfl #[.int .i64 0, .int .i64 0, .slice none 0 0, .slice none 0 0, .int .u64 0, .int .i64 0, .int .i64 0] 28 (fun _ => rfl) ?_; intro b14 w2 hm2; replace hv := hv.madeAt hm2; clear hm2)
    | ((with_reducible refine at_alloc (T := 32) (dst := some 15) ?_); refine wl_newb rfl Tryz.zeroCells32 32 (fun _ => rfl) ?_; intro b15 w2 hm2; replace hv := hv.madeAt hm2; clear hm2)
    | ((with_reducible refine at_store (T := 28) ?_); refine wl_stv rfl b14 rfl _ rfl _ (hv.vars.row (by first | exact .head _ | exact .tail _ (.head _) | exact .tail _ (.tail _ (.head _)) | exact .tail _ (.tail _ (.tail _ (.head _))) | exact .tail _ (.tail _ (.tail _ (.tail _ (.head _)))) | exact .tail _ (.tail _ (.tail _ (.tail _ (.tail _ (.head _))))) | exact .tail _ (.tail _ (.tail _ (.tail _ (.tail _ (.tail _ (.head _)))))) | exact .tail _ (.tail _ (.tail _ (.tail _ (.tail _ (.tail _ (.tail _ (.head _))))))))) (hv.vars.sft (by first | exact .head _ | exact .tail _ (.head _) | exact .tail _ (.tail _ (.head _)) | exact .tail _ (.tail _ (.tail _ (.head _))) | exact .tail _ (.tail _ (.tail _ (.tail _ (.head _)))) | exact .tail _ (.tail _ (.tail _ (.tail _ (.tail _ (.head _))))) | exact .tail _ (.tail _ (.tail _ (.tail _ (.tail _ (.tail _ (.head _)))))) | exact .tail _ (.tail _ (.tail _ (.tail _ (.tail _ (.tail _ (.tail _ (.head _))))))))) 7 infoT rfl rfl (by simp [Value.oneCell']) ?_; intro w2 hw2; (first | (replace hv := hv.set 0 rfl hw2) | (replace hv := hv.set 1 rfl hw2) | (replace hv := hv.set 2 rfl hw2) | (replace hv := hv.set 3 rfl hw2) | (replace hv := hv.set 4 rfl hw2) | (replace hv := hv.set 5 rfl hw2)); clear hw2; simp only [List.set] at hv)
    | ((with_reducible refine at_store (T := 28) ?_); refine wl_stv rfl b11 rfl _ rfl _ (hv.vars.row (by first | exact .head _ | exact .tail _ (.head _) | exact .tail _ (.tail _ (.head _)) | exact .tail _ (.tail _ (.tail _ (.head _))) | exact .tail _ (.tail _ (.tail _ (.tail _ (.head _)))) | exact .tail _ (.tail _ (.tail _ (.tail _ (.tail _ (.head _))))) | exact .tail _ (.tail _ (.tail _ (.tail _ (.tail _ (.tail _ (.head _)))))) | exact .tail _ (.tail _ (.tail _ (.tail _ (.tail _ (.tail _ (.tail _ (.head _))))))))) (hv.vars.sft (by first | exact .head _ | exact .tail _ (.head _) | exact .tail _ (.tail _ (.head _)) | exact .tail _ (.tail _ (.tail _ (.head _))) | exact .tail _ (.tail _ (.tail _ (.tail _ (.head _)))) | exact .tail _ (.tail _ (.tail _ (.tail _ (.tail _ (.head _))))) | exact .tail _ (.tail _ (.tail _ (.tail _ (.tail _ (.tail _ (.head _)))))) | exact .tail _ (.tail _ (.tail _ (.tail _ (.tail _ (.tail _ (.tail _ (.head _))))))))) 7 infoT rfl rfl (by simp [Value.oneCell']) ?_; intro w2 hw2; (first | (replace hv := hv.set 0 rfl hw2) | (replace hv := hv.set 1 rfl hw2) | (replace hv := hv.set 2 rfl hw2) | (replace hv := hv.set 3 rfl hw2) | (replace hv := hv.set 4 rfl hw2) | (replace hv := hv.set 5 rfl hw2)); clear hw2; simp only [List.set] at hv)
    | ((with_reducible refine at_store (T := 32) ?_); refine wl_stv rfl b15 rfl _ rfl _ (hv.vars.row (by first | exact .head _ | exact .tail _ (.head _) | exact .tail _ (.tail _ (.head _)) | exact .tail _ (.tail _ (.tail _ (.head _))) | exact .tail _ (.tail _ (.tail _ (.tail _ (.head _)))) | exact .tail _ (.tail _ (.tail _ (.tail _ (.tail _ (.head _))))) | exact .tail _ (.tail _ (.tail _ (.tail _ (.tail _ (.tail _ (.head _)))))) | exact .tail _ (.tail _ (.tail _ (.tail _ (.tail _ (.tail _ (.tail _ (.head _))))))))) (hv.vars.sft (by first | exact .head _ | exact .tail _ (.head _) | exact .tail _ (.tail _ (.head _)) | exact .tail _ (.tail _ (.tail _ (.head _))) | exact .tail _ (.tail _ (.tail _ (.tail _ (.head _)))) | exact .tail _ (.tail _ (.tail _ (.tail _ (.tail _ (.head _))))) | exact .tail _ (.tail _ (.tail _ (.tail _ (.tail _ (.tail _ (.head _)))))) | exact .tail _ (.tail _ (.tail _ (.tail _ (.tail _ (.tail _ (.tail _ (.head _))))))))) 144 infoPs (size_pg _ _) (by rw [zeroPs, size_pg]) (one_pg _ _) ?_; intro w2 hw2; (first | (replace hv := hv.set 0 rfl hw2) | (replace hv := hv.set 1 rfl hw2) | (replace hv := hv.set 2 rfl hw2) | (replace hv := hv.set 3 rfl hw2) | (replace hv := hv.set 4 rfl hw2) | (replace hv := hv.set 5 rfl hw2)); clear hw2; simp only [List.set] at hv)
    | ((with_reducible refine at_store (T := 32) ?_); refine wl_stv rfl b12 rfl _ rfl _ (hv.vars.row (by first | exact .head _ | exact .tail _ (.head _) | exact .tail _ (.tail _ (.head _)) | exact .tail _ (.tail _ (.tail _ (.head _))) | exact .tail _ (.tail _ (.tail _ (.tail _ (.head _)))) | exact .tail _ (.tail _ (.tail _ (.tail _ (.tail _ (.head _))))) | exact .tail _ (.tail _ (.tail _ (.tail _ (.tail _ (.tail _ (.head _)))))) | exact .tail _ (.tail _ (.tail _ (.tail _ (.tail _ (.tail _ (.tail _ (.head _))))))))) (hv.vars.sft (by first | exact .head _ | exact .tail _ (.head _) | exact .tail _ (.tail _ (.head _)) | exact .tail _ (.tail _ (.tail _ (.head _))) | exact .tail _ (.tail _ (.tail _ (.tail _ (.head _)))) | exact .tail _ (.tail _ (.tail _ (.tail _ (.tail _ (.head _))))) | exact .tail _ (.tail _ (.tail _ (.tail _ (.tail _ (.tail _ (.head _)))))) | exact .tail _ (.tail _ (.tail _ (.tail _ (.tail _ (.tail _ (.tail _ (.head _))))))))) 144 infoPs (size_pg _ _) (by rw [zeroPs, size_pg]) (one_pg _ _) ?_; intro w2 hw2; (first | (replace hv := hv.set 0 rfl hw2) | (replace hv := hv.set 1 rfl hw2) | (replace hv := hv.set 2 rfl hw2) | (replace hv := hv.set 3 rfl hw2) | (replace hv := hv.set 4 rfl hw2) | (replace hv := hv.set 5 rfl hw2)); clear hw2; simp only [List.set] at hv)
    | (go_at_call 6; (with_reducible refine (kD _ _ _ hv (Mem.z) (Mem.s (Mem.z)) (Mem.s (Mem.s (Mem.z)))).mono ?_); rintro e w1 ⟨pakD, pnkD, pcpkD, rakD, rnkD, rcpkD, rfl, hv1⟩; replace hv := hv1; clear hv1)
    | (go_at_call 7; (with_reducible refine (kR _ _ _ hv (Mem.s (Mem.s (Mem.z))) (Mem.s (Mem.s (Mem.s (Mem.z)))) (Mem.s (Mem.s (Mem.s (Mem.s (Mem.z)))))).mono ?_); rintro e w1 ⟨pakR, pnkR, pcpkR, rakR, rnkR, rcpkR, rfl, hv1⟩; replace hv := hv1; clear hv1)
    | (go_at_call 9; (with_reducible refine (kPU _ _ _ hv (Mem.s (Mem.s (Mem.s (Mem.s (Mem.z)))))).mono ?_); rintro e w1 ⟨paP, pnP, pcpP, rfl, hv1⟩; replace hv := hv1; clear hv1)
    | (go_at_call 10; (with_reducible refine (kRPU _ _ _ hv (Mem.s (Mem.s (Mem.s (Mem.s (Mem.s (Mem.z))))))).mono ?_); rintro e w1 ⟨paQ, pnQ, pcpQ, rfl, hv1⟩; replace hv := hv1; clear hv1)
    | (go_at_call 11; (with_reducible refine (kPO _ _ _ hv (Mem.s (Mem.s (Mem.s (Mem.s (Mem.s (Mem.s (Mem.z)))))))).mono ?_); rintro e w1 ⟨paO, pnO, pcpO, raO, rnO, rcpO, rfl, hv1⟩; replace hv := hv1; clear hv1)
    | (go_at_call 12; (with_reducible refine (kRPO _ _ _ hv (Mem.s (Mem.s (Mem.s (Mem.s (Mem.s (Mem.s (Mem.s (Mem.s (Mem.z)))))))))).mono ?_); rintro e w1 ⟨paR, pnR, pcpR, raR, rnR, rcpR, rfl, hv1⟩; replace hv := hv1; clear hv1)
    | (go_at_call 8; (with_reducible refine (One_tell st' pc' sk' er' wk' _ _ _ _ _ _ _ _ _ _ _ _ S' C' _ (hv.rd (Mem.s (Mem.s (Mem.z)))) (hv.rd (Mem.z)) (hv.rd (Mem.s (Mem.s (Mem.s (Mem.z))))) (hv.rd (Mem.s (Mem.z)))).mono ?_); rintro e w1 ⟨rfl, hn1⟩; replace hv := hv.new hn1; clear hn1)
    | (go_at_call 8; (with_reducible refine (One_tell st pc sk er wk _ _ _ _ _ _ _ _ _ _ _ _ SP C _ (hv.rd (Mem.s (Mem.z))) (hv.rd (Mem.z)) (hv.rd (Mem.s (Mem.s (Mem.s (Mem.s (Mem.s (Mem.s (Mem.s (Mem.z))))))))) (hv.rd (Mem.s (Mem.s (Mem.s (Mem.s (Mem.s (Mem.s (Mem.s (Mem.z)))))))))).mono ?_); rintro e w1 ⟨rfl, hn1⟩; replace hv := hv.new hn1; clear hn1)
    | (go_at_call 8; (with_reducible refine (One_tell st pc sk er wk _ _ _ _ _ _ _ _ _ _ _ _ SA C _ (hv.rd (Mem.s (Mem.s (Mem.z)))) (hv.rd (Mem.z)) (hv.rd (Mem.s (Mem.s (Mem.s (Mem.s (Mem.s (Mem.s (Mem.s (Mem.s (Mem.s (Mem.s (Mem.s (Mem.z))))))))))))) (hv.rd (Mem.s (Mem.s (Mem.s (Mem.s (Mem.s (Mem.s (Mem.s (Mem.s (Mem.s (Mem.s (Mem.s (Mem.z)))))))))))))).mono ?_); rintro e w1 ⟨rfl, hn1⟩; replace hv := hv.new hn1; clear hn1)
    | (go_at_call 8; (with_reducible refine (One_zero _ _ _ _ _ _ SB _ (hv.rd (Mem.s (Mem.s (Mem.s (Mem.z))))) (hv.rd (Mem.s (Mem.z)))).mono ?_); rintro e w1 ⟨rfl, hn1⟩; replace hv := hv.new hn1; clear hn1)
    | ((with_reducible refine at_build (T := 28) ?_); refine wl_build rfl _ rfl (built_thread _ _ _) ?_)
    | (go_at_call 5; (with_reducible refine (heads30 _).mono ?_); rintro e w1 ⟨rfl, hn1⟩; replace hv := hv.new hn1; clear hn1))
  go_ret
  exact ⟨rfl, hv.below⟩
theorem InterpTells_any (lv sv cv : Value) (st pc sk er : Int) (wk : Nat) (S : List Nat) (C : List Int) (l : List Cd.Inst) (b : Nat → Bool) (q : Nat → Nat → Nat) (x : Nat) (n : Int) (wl : World) (hl : Rd wl 2 lv (cellsI l)) (hg : ∀ x ∈ l, goodI x) (hs : Rd wl 1 sv (cellsU S)) (hc : Rd wl 1 cv (cellsN C)) (hu : ∀ x ∈ S, x < 18446744073709551616) (hn1 : -9223372036854775808 ≤ n) (hn2 : n ≤ 9223372036854775807) :
    Calls Tryz.prog 3 #[lv, .agg #[.int .i64 st, .int .i64 pc, sv, cv, .int .u64 (wk : Nat), .int .i64 sk, .int .i64 er], .agg (pg b q), .int .u64 (x : Nat), .int .i64 n] wl fun e w' => e = .returned (.bool true) ∧ New wl w' := by
  obtain ⟨la, ln, lcap, rfl, _⟩ := id hl
  obtain ⟨sa, sn, sc, rfl, _⟩ := id hs
  obtain ⟨ca, cn, cc, rfl, _⟩ := id hc
  by_cases h : 200 < ln ∨ 80 < sn ∨ 80 < cn
  · exact Tells_out st pc sk er wk sa ca sn sc cn cc la ln lcap b q x n wl h
  · exact Tells_in st pc sk er wk sa ca sn sc cn cc S C la ln lcap l b q x n wl hl hg hs hc hu hn1 hn2 (by omega) (by omega) (by omega)
end Go.Proofs.YthpodinbbmgfoaaGreat
end
