/-
  The walk of interp.begun where it begins nothing.
-/
import Derived.Test.YthpodinbbmgfoaaGreatIpAny
set_option linter.unusedVariables false
set_option linter.unusedSimpArgs false
namespace Go.Proofs.YthpodinbbmgfoaaGreat
open Go.Proofs.Ip Go.Proofs.Pt Go.Proofs.Pg Go.Proofs.Cd Go.RowKit Go.Shelf
set_option maxRecDepth 100000 in
set_option maxHeartbeats 1000000 in
theorem begun_no (st pc sk er : Int) (wk : Nat) (S : List Nat) (C : List Int) (sv cv lv : Value) (l : List Cd.Inst) (b : Nat → Bool) (q : Nat → Nat → Nat) (w : World) (hl : Rd w 2 lv (cellsI l)) (hg : ∀ x ∈ l, goodI x) (hs : Rd w 1 sv (cellsU S)) (hc : Rd w 1 cv (cellsN C))
    (hn : inB l ⟨st, pc, S, C, wk, sk, er⟩ = false) : Calls Tryz.prog 14 #[lv, .agg (thC st pc sv cv wk sk er), .agg (pg b q)] w fun e w' => e = .returned (.tuple #[.pointer none, .bool false]) ∧ New w w' := by
  have kC : ∀ w', Rd w' 2 lv (cellsI l) → Cd.chk l = false → Calls Tryz.prog 23 #[lv] w' fun e w2 => e = .returned (.bool false) ∧ New w' w2 := fun w' h e => by
    have := Check_any lv l w' h hg
    rwa [e] at this
  have HL := Lib.hid hl
  obtain ⟨la, ln, lcap, rfl, l1, l2, l3, l4, l5⟩ := hl
  rw [len_cellsI] at l1
  have hln : ln = l.length := by omega
  obtain ⟨sa, sn, sc, rfl, s1, s2⟩ := hs
  obtain ⟨ca, cn, cc, rfl, r1, r2⟩ := hc
  rw [cellsU_len, Nat.mul_one] at s1
  rw [cellsN_len, Nat.mul_one] at r1
  unfold inB at hn
  dsimp only at hn
  have cases5 : pc < 0 ∨ (0 ≤ pc ∧ (ln : Int) ≤ pc) ∨ (0 ≤ pc ∧ pc < ln ∧ (32 : Int) < sn) ∨ (0 ≤ pc ∧ pc < ln ∧ (sn : Int) ≤ 32 ∧ (16 : Int) < cn) ∨ (0 ≤ pc ∧ pc < ln ∧ (sn : Int) ≤ 32 ∧ (cn : Int) ≤ 16 ∧ Cd.chk l = false) := by
    by_cases h1 : pc < 0
    · exact .inl h1
    · by_cases h2 : (ln : Int) ≤ pc
      · exact .inr (.inl ⟨by omega, h2⟩)
      · by_cases h3 : (32 : Int) < sn
        · exact .inr (.inr (.inl ⟨by omega, by omega, h3⟩))
        · by_cases h4 : (16 : Int) < cn
          · exact .inr (.inr (.inr (.inl ⟨by omega, by omega, by omega, h4⟩)))
          · refine .inr (.inr (.inr (.inr ⟨by omega, by omega, by omega, by omega, ?_⟩)))
            rw [decide_eq_true (by omega), decide_eq_true (by omega), decide_eq_true (by omega), decide_eq_true (by omega)] at hn
            simpa using hn
  clear hn s1 s2 r1 r2 l1 l2 l3 l4 l5 hln hg
  have hv := Vars.nil w
  show Calls Tryz.prog 14 #[.slice la ln lcap, .agg #[.int .i64 st, .int .i64 pc, .slice sa sn sc, .slice ca cn cc, .int .u64 (wk : Nat), .int .i64 sk, .int .i64 er], .agg (pg b q)] w _
  rcases cases5 with h1 | ⟨h1, h2⟩ | ⟨h1, h2, h3⟩ | ⟨h1, h2, h3, h4⟩ | ⟨h1, h2, h3, h4, h5⟩
  · have g0 : decide (pc < 0) = true := decide_eq_true (by omega)
    clear h1
    go_enter Tryz.func14, Tryz.ntmps14
    go_wp2_with (first
      | ((with_reducible refine at_box (T := 28) (dst := some 4) ?_); refine wl_newb rfl #[.int .i64 st, .int .i64 pc, .slice sa sn sc, .slice ca cn cc, .int .u64 (wk : Nat), .int .i64 sk, .int .i64 er] 28 (fun _ => rfl) ?_; intro b4 w2 hm2; replace hv := hv.madeAt hm2; clear hm2)
      | ((with_reducible refine at_box (T := 32) (dst := some 5) ?_); refine wl_newb rfl (pg b q) 32 (fun _ => rfl) ?_; intro b5 w2 hm2; replace hv := hv.madeAt hm2; clear hm2)
      | ((with_reducible refine at_load (T := 3) ?_); refine wl_ldc rfl _ _ rfl _ (hv.row (by first | exact .head _ | exact .tail _ (.head _) | exact .tail _ (.tail _ (.head _)) | exact .tail _ (.tail _ (.tail _ (.head _))) | exact .tail _ (.tail _ (.tail _ (.tail _ (.head _)))) | exact .tail _ (.tail _ (.tail _ (.tail _ (.tail _ (.head _))))) | exact .tail _ (.tail _ (.tail _ (.tail _ (.tail _ (.tail _ (.head _)))))) | exact .tail _ (.tail _ (.tail _ (.tail _ (.tail _ (.tail _ (.tail _ (.head _))))))))) _ Tryz.underlying3 rfl _ rfl ?_)
      | ((with_reducible refine at_load (T := 23) ?_); refine wl_ldc rfl _ _ rfl _ (hv.row (by first | exact .head _ | exact .tail _ (.head _) | exact .tail _ (.tail _ (.head _)) | exact .tail _ (.tail _ (.tail _ (.head _))) | exact .tail _ (.tail _ (.tail _ (.tail _ (.head _)))) | exact .tail _ (.tail _ (.tail _ (.tail _ (.tail _ (.head _))))) | exact .tail _ (.tail _ (.tail _ (.tail _ (.tail _ (.tail _ (.head _)))))) | exact .tail _ (.tail _ (.tail _ (.tail _ (.tail _ (.tail _ (.tail _ (.head _))))))))) _ Tryz.underlying23 rfl _ rfl ?_)
      | ((with_reducible refine at_load (T := 24) ?_); refine wl_ldc rfl _ _ rfl _ (hv.row (by first | exact .head _ | exact .tail _ (.head _) | exact .tail _ (.tail _ (.head _)) | exact .tail _ (.tail _ (.tail _ (.head _))) | exact .tail _ (.tail _ (.tail _ (.tail _ (.head _)))) | exact .tail _ (.tail _ (.tail _ (.tail _ (.tail _ (.head _))))) | exact .tail _ (.tail _ (.tail _ (.tail _ (.tail _ (.tail _ (.head _)))))) | exact .tail _ (.tail _ (.tail _ (.tail _ (.tail _ (.tail _ (.tail _ (.head _))))))))) _ Tryz.underlying24 rfl _ rfl ?_))
    go_ret2
    exact ⟨rfl, hv.below⟩
  · have g0 : decide (pc < 0) = false := decide_eq_false (by omega)
    have g1 : decide ((ln : Int) ≤ pc) = true := decide_eq_true (by omega)
    clear h1 h2
    go_enter Tryz.func14, Tryz.ntmps14
    go_wp2_with (first
      | ((with_reducible refine at_box (T := 28) (dst := some 4) ?_); refine wl_newb rfl #[.int .i64 st, .int .i64 pc, .slice sa sn sc, .slice ca cn cc, .int .u64 (wk : Nat), .int .i64 sk, .int .i64 er] 28 (fun _ => rfl) ?_; intro b4 w2 hm2; replace hv := hv.madeAt hm2; clear hm2)
      | ((with_reducible refine at_box (T := 32) (dst := some 5) ?_); refine wl_newb rfl (pg b q) 32 (fun _ => rfl) ?_; intro b5 w2 hm2; replace hv := hv.madeAt hm2; clear hm2)
      | ((with_reducible refine at_load (T := 3) ?_); refine wl_ldc rfl _ _ rfl _ (hv.row (by first | exact .head _ | exact .tail _ (.head _) | exact .tail _ (.tail _ (.head _)) | exact .tail _ (.tail _ (.tail _ (.head _))) | exact .tail _ (.tail _ (.tail _ (.tail _ (.head _)))) | exact .tail _ (.tail _ (.tail _ (.tail _ (.tail _ (.head _))))) | exact .tail _ (.tail _ (.tail _ (.tail _ (.tail _ (.tail _ (.head _)))))) | exact .tail _ (.tail _ (.tail _ (.tail _ (.tail _ (.tail _ (.tail _ (.head _))))))))) _ Tryz.underlying3 rfl _ rfl ?_)
      | ((with_reducible refine at_load (T := 23) ?_); refine wl_ldc rfl _ _ rfl _ (hv.row (by first | exact .head _ | exact .tail _ (.head _) | exact .tail _ (.tail _ (.head _)) | exact .tail _ (.tail _ (.tail _ (.head _))) | exact .tail _ (.tail _ (.tail _ (.tail _ (.head _)))) | exact .tail _ (.tail _ (.tail _ (.tail _ (.tail _ (.head _))))) | exact .tail _ (.tail _ (.tail _ (.tail _ (.tail _ (.tail _ (.head _)))))) | exact .tail _ (.tail _ (.tail _ (.tail _ (.tail _ (.tail _ (.tail _ (.head _))))))))) _ Tryz.underlying23 rfl _ rfl ?_)
      | ((with_reducible refine at_load (T := 24) ?_); refine wl_ldc rfl _ _ rfl _ (hv.row (by first | exact .head _ | exact .tail _ (.head _) | exact .tail _ (.tail _ (.head _)) | exact .tail _ (.tail _ (.tail _ (.head _))) | exact .tail _ (.tail _ (.tail _ (.tail _ (.head _)))) | exact .tail _ (.tail _ (.tail _ (.tail _ (.tail _ (.head _))))) | exact .tail _ (.tail _ (.tail _ (.tail _ (.tail _ (.tail _ (.head _)))))) | exact .tail _ (.tail _ (.tail _ (.tail _ (.tail _ (.tail _ (.tail _ (.head _))))))))) _ Tryz.underlying24 rfl _ rfl ?_))
    go_ret2
    exact ⟨rfl, hv.below⟩
  · have g0 : decide (pc < 0) = false := decide_eq_false (by omega)
    have g1 : decide ((ln : Int) ≤ pc) = false := decide_eq_false (by omega)
    have g2 : decide ((32 : Int) < (sn : Int)) = true := decide_eq_true (by omega)
    clear h1 h2 h3
    go_enter Tryz.func14, Tryz.ntmps14
    go_wp2_with (first
      | ((with_reducible refine at_box (T := 28) (dst := some 4) ?_); refine wl_newb rfl #[.int .i64 st, .int .i64 pc, .slice sa sn sc, .slice ca cn cc, .int .u64 (wk : Nat), .int .i64 sk, .int .i64 er] 28 (fun _ => rfl) ?_; intro b4 w2 hm2; replace hv := hv.madeAt hm2; clear hm2)
      | ((with_reducible refine at_box (T := 32) (dst := some 5) ?_); refine wl_newb rfl (pg b q) 32 (fun _ => rfl) ?_; intro b5 w2 hm2; replace hv := hv.madeAt hm2; clear hm2)
      | ((with_reducible refine at_load (T := 3) ?_); refine wl_ldc rfl _ _ rfl _ (hv.row (by first | exact .head _ | exact .tail _ (.head _) | exact .tail _ (.tail _ (.head _)) | exact .tail _ (.tail _ (.tail _ (.head _))) | exact .tail _ (.tail _ (.tail _ (.tail _ (.head _)))) | exact .tail _ (.tail _ (.tail _ (.tail _ (.tail _ (.head _))))) | exact .tail _ (.tail _ (.tail _ (.tail _ (.tail _ (.tail _ (.head _)))))) | exact .tail _ (.tail _ (.tail _ (.tail _ (.tail _ (.tail _ (.tail _ (.head _))))))))) _ Tryz.underlying3 rfl _ rfl ?_)
      | ((with_reducible refine at_load (T := 23) ?_); refine wl_ldc rfl _ _ rfl _ (hv.row (by first | exact .head _ | exact .tail _ (.head _) | exact .tail _ (.tail _ (.head _)) | exact .tail _ (.tail _ (.tail _ (.head _))) | exact .tail _ (.tail _ (.tail _ (.tail _ (.head _)))) | exact .tail _ (.tail _ (.tail _ (.tail _ (.tail _ (.head _))))) | exact .tail _ (.tail _ (.tail _ (.tail _ (.tail _ (.tail _ (.head _)))))) | exact .tail _ (.tail _ (.tail _ (.tail _ (.tail _ (.tail _ (.tail _ (.head _))))))))) _ Tryz.underlying23 rfl _ rfl ?_)
      | ((with_reducible refine at_load (T := 24) ?_); refine wl_ldc rfl _ _ rfl _ (hv.row (by first | exact .head _ | exact .tail _ (.head _) | exact .tail _ (.tail _ (.head _)) | exact .tail _ (.tail _ (.tail _ (.head _))) | exact .tail _ (.tail _ (.tail _ (.tail _ (.head _)))) | exact .tail _ (.tail _ (.tail _ (.tail _ (.tail _ (.head _))))) | exact .tail _ (.tail _ (.tail _ (.tail _ (.tail _ (.tail _ (.head _)))))) | exact .tail _ (.tail _ (.tail _ (.tail _ (.tail _ (.tail _ (.tail _ (.head _))))))))) _ Tryz.underlying24 rfl _ rfl ?_))
    go_ret2
    exact ⟨rfl, hv.below⟩
  · have g0 : decide (pc < 0) = false := decide_eq_false (by omega)
    have g1 : decide ((ln : Int) ≤ pc) = false := decide_eq_false (by omega)
    have g2 : decide ((32 : Int) < (sn : Int)) = false := decide_eq_false (by omega)
    have g3 : decide ((16 : Int) < (cn : Int)) = true := decide_eq_true (by omega)
    clear h1 h2 h3 h4
    go_enter Tryz.func14, Tryz.ntmps14
    go_wp2_with (first
      | ((with_reducible refine at_box (T := 28) (dst := some 4) ?_); refine wl_newb rfl #[.int .i64 st, .int .i64 pc, .slice sa sn sc, .slice ca cn cc, .int .u64 (wk : Nat), .int .i64 sk, .int .i64 er] 28 (fun _ => rfl) ?_; intro b4 w2 hm2; replace hv := hv.madeAt hm2; clear hm2)
      | ((with_reducible refine at_box (T := 32) (dst := some 5) ?_); refine wl_newb rfl (pg b q) 32 (fun _ => rfl) ?_; intro b5 w2 hm2; replace hv := hv.madeAt hm2; clear hm2)
      | ((with_reducible refine at_load (T := 3) ?_); refine wl_ldc rfl _ _ rfl _ (hv.row (by first | exact .head _ | exact .tail _ (.head _) | exact .tail _ (.tail _ (.head _)) | exact .tail _ (.tail _ (.tail _ (.head _))) | exact .tail _ (.tail _ (.tail _ (.tail _ (.head _)))) | exact .tail _ (.tail _ (.tail _ (.tail _ (.tail _ (.head _))))) | exact .tail _ (.tail _ (.tail _ (.tail _ (.tail _ (.tail _ (.head _)))))) | exact .tail _ (.tail _ (.tail _ (.tail _ (.tail _ (.tail _ (.tail _ (.head _))))))))) _ Tryz.underlying3 rfl _ rfl ?_)
      | ((with_reducible refine at_load (T := 23) ?_); refine wl_ldc rfl _ _ rfl _ (hv.row (by first | exact .head _ | exact .tail _ (.head _) | exact .tail _ (.tail _ (.head _)) | exact .tail _ (.tail _ (.tail _ (.head _))) | exact .tail _ (.tail _ (.tail _ (.tail _ (.head _)))) | exact .tail _ (.tail _ (.tail _ (.tail _ (.tail _ (.head _))))) | exact .tail _ (.tail _ (.tail _ (.tail _ (.tail _ (.tail _ (.head _)))))) | exact .tail _ (.tail _ (.tail _ (.tail _ (.tail _ (.tail _ (.tail _ (.head _))))))))) _ Tryz.underlying23 rfl _ rfl ?_)
      | ((with_reducible refine at_load (T := 24) ?_); refine wl_ldc rfl _ _ rfl _ (hv.row (by first | exact .head _ | exact .tail _ (.head _) | exact .tail _ (.tail _ (.head _)) | exact .tail _ (.tail _ (.tail _ (.head _))) | exact .tail _ (.tail _ (.tail _ (.tail _ (.head _)))) | exact .tail _ (.tail _ (.tail _ (.tail _ (.tail _ (.head _))))) | exact .tail _ (.tail _ (.tail _ (.tail _ (.tail _ (.tail _ (.head _)))))) | exact .tail _ (.tail _ (.tail _ (.tail _ (.tail _ (.tail _ (.tail _ (.head _))))))))) _ Tryz.underlying24 rfl _ rfl ?_))
    go_ret2
    exact ⟨rfl, hv.below⟩
  · have g0 : decide (pc < 0) = false := decide_eq_false (by omega)
    have g1 : decide ((ln : Int) ≤ pc) = false := decide_eq_false (by omega)
    have g2 : decide ((32 : Int) < (sn : Int)) = false := decide_eq_false (by omega)
    have g3 : decide ((16 : Int) < (cn : Int)) = false := decide_eq_false (by omega)
    have kC2 : ∀ w', Rd w' 2 (.slice la ln lcap) (cellsI l) → Calls Tryz.prog 23 #[.slice la ln lcap] w' fun e w2 => e = .returned (.bool false) ∧ New w' w2 := fun w' h => kC w' h h5
    clear kC h5
    clear h1 h2 h3 h4
    go_enter Tryz.func14, Tryz.ntmps14
    go_wp2_with (first
      | ((with_reducible refine at_box (T := 28) (dst := some 4) ?_); refine wl_newb rfl #[.int .i64 st, .int .i64 pc, .slice sa sn sc, .slice ca cn cc, .int .u64 (wk : Nat), .int .i64 sk, .int .i64 er] 28 (fun _ => rfl) ?_; intro b4 w2 hm2; replace hv := hv.madeAt hm2; clear hm2)
      | ((with_reducible refine at_box (T := 32) (dst := some 5) ?_); refine wl_newb rfl (pg b q) 32 (fun _ => rfl) ?_; intro b5 w2 hm2; replace hv := hv.madeAt hm2; clear hm2)
      | ((with_reducible refine at_load (T := 3) ?_); refine wl_ldc rfl _ _ rfl _ (hv.row (by first | exact .head _ | exact .tail _ (.head _) | exact .tail _ (.tail _ (.head _)) | exact .tail _ (.tail _ (.tail _ (.head _))) | exact .tail _ (.tail _ (.tail _ (.tail _ (.head _)))) | exact .tail _ (.tail _ (.tail _ (.tail _ (.tail _ (.head _))))) | exact .tail _ (.tail _ (.tail _ (.tail _ (.tail _ (.tail _ (.head _)))))) | exact .tail _ (.tail _ (.tail _ (.tail _ (.tail _ (.tail _ (.tail _ (.head _))))))))) _ Tryz.underlying3 rfl _ rfl ?_)
      | ((with_reducible refine at_load (T := 23) ?_); refine wl_ldc rfl _ _ rfl _ (hv.row (by first | exact .head _ | exact .tail _ (.head _) | exact .tail _ (.tail _ (.head _)) | exact .tail _ (.tail _ (.tail _ (.head _))) | exact .tail _ (.tail _ (.tail _ (.tail _ (.head _)))) | exact .tail _ (.tail _ (.tail _ (.tail _ (.tail _ (.head _))))) | exact .tail _ (.tail _ (.tail _ (.tail _ (.tail _ (.tail _ (.head _)))))) | exact .tail _ (.tail _ (.tail _ (.tail _ (.tail _ (.tail _ (.tail _ (.head _))))))))) _ Tryz.underlying23 rfl _ rfl ?_)
      | ((with_reducible refine at_load (T := 24) ?_); refine wl_ldc rfl _ _ rfl _ (hv.row (by first | exact .head _ | exact .tail _ (.head _) | exact .tail _ (.tail _ (.head _)) | exact .tail _ (.tail _ (.tail _ (.head _))) | exact .tail _ (.tail _ (.tail _ (.tail _ (.head _)))) | exact .tail _ (.tail _ (.tail _ (.tail _ (.tail _ (.head _))))) | exact .tail _ (.tail _ (.tail _ (.tail _ (.tail _ (.tail _ (.head _)))))) | exact .tail _ (.tail _ (.tail _ (.tail _ (.tail _ (.tail _ (.tail _ (.head _))))))))) _ Tryz.underlying24 rfl _ rfl ?_)
      | (go_at_call 23; (with_reducible refine (kC2 _ (HL.out.below hv.below)).mono ?_); rintro e w1 ⟨rfl, hn1⟩; replace hv := hv.new hn1; clear hn1))
    go_ret2
    exact ⟨rfl, hv.below⟩
end Go.Proofs.YthpodinbbmgfoaaGreat
