/-
  The walk of the reference's One, where the two threads are alike.
-/
import Derived.Test.YthpodinbbmgfoaaGreatIpRun
set_option linter.unusedVariables false
set_option linter.unusedSimpArgs false
namespace Go.Proofs.YthpodinbbmgfoaaGreat
open Go.Proofs.Ip Go.Proofs.Pt Go.Proofs.Pg Go.Proofs.Cd Go.RowKit Go.Shelf
set_option maxRecDepth 100000 in
set_option maxHeartbeats 4000000 in
theorem One_same (st pc sk er : Int) (wk : Nat) (S : List Nat) (C : List Int) (sv cv uv dv : Value) (w : World) (h1 : Rd w 1 sv (cellsU S)) (h2 : Rd w 1 uv (cellsU S)) (h3 : Rd w 1 cv (cellsN C)) (h4 : Rd w 1 dv (cellsN C)) :
    Calls Tryz.prog 8 #[.agg (thC st pc sv cv wk sk er), .agg (thC st pc uv dv wk sk er)] w fun e w' => e = .returned (.bool true) ∧ New w w' := by
  have hv := ((((Mem.nil w).old h4).old h3).old h2).old h1
  obtain ⟨sa, sn, sc, rfl, g1, g2, g3, g4, g5⟩ := h1
  obtain ⟨ua, un, uc, rfl, g1', g2', g3', g4', g5'⟩ := h2
  obtain ⟨ca, cn, cc, rfl, f1, f2, f3, f4, f5⟩ := h3
  obtain ⟨ya, dn, yc, rfl, f1', f2', f3', f4', f5'⟩ := h4
  rw [cellsU_len, Nat.mul_one] at g1 g1'
  rw [cellsN_len, Nat.mul_one] at f1 f1'
  obtain rfl : sn = un := by omega
  obtain rfl : cn = dn := by omega
  have HS := Lib.hid g1
  have HC := Lib.hid f1
  have hm1 : sn ≤ 9223372036854775807 := by unfold maxLen at g3; omega
  have hm2 : cn ≤ 9223372036854775807 := by unfold maxLen at f3; omega
  clear g1 g2 g3 g4 g5 g1' g2' g3' g4' g5' f1 f2 f3 f4 f5 f1' f2' f3' f4' f5'
  show Calls Tryz.prog 8 #[.agg #[.int .i64 st, .int .i64 pc, .slice sa sn sc, .slice ca cn cc, .int .u64 (wk : Nat), .int .i64 sk, .int .i64 er], .agg #[.int .i64 st, .int .i64 pc, .slice ua sn uc, .slice ya cn yc, .int .u64 (wk : Nat), .int .i64 sk, .int .i64 er]] w _
  go_enter Tryz.func8, Tryz.ntmps8
  go_wp2_with (first
    | ((with_reducible refine at_box (T := 28) (dst := some 2) ?_); refine wl_newb rfl #[.int .i64 st, .int .i64 pc, .slice sa sn sc, .slice ca cn cc, .int .u64 (wk : Nat), .int .i64 sk, .int .i64 er] 28 (fun _ => rfl) ?_; intro b2 w2 hm2; replace hv := hv.madeAt hm2; clear hm2)
    | ((with_reducible refine at_box (T := 28) (dst := some 3) ?_); refine wl_newb rfl #[.int .i64 st, .int .i64 pc, .slice ua sn uc, .slice ya cn yc, .int .u64 (wk : Nat), .int .i64 sk, .int .i64 er] 28 (fun _ => rfl) ?_; intro b3 w2 hm2; replace hv := hv.madeAt hm2; clear hm2)
    | ((with_reducible refine at_load (T := 3) ?_); refine wl_ldc rfl _ _ rfl _ (hv.vars.row (by first | exact .head _ | exact .tail _ (.head _) | exact .tail _ (.tail _ (.head _)) | exact .tail _ (.tail _ (.tail _ (.head _))) | exact .tail _ (.tail _ (.tail _ (.tail _ (.head _)))) | exact .tail _ (.tail _ (.tail _ (.tail _ (.tail _ (.head _))))) | exact .tail _ (.tail _ (.tail _ (.tail _ (.tail _ (.tail _ (.head _)))))) | exact .tail _ (.tail _ (.tail _ (.tail _ (.tail _ (.tail _ (.tail _ (.head _))))))))) _ Tryz.underlying3 rfl _ rfl ?_)
    | ((with_reducible refine at_load (T := 25) ?_); refine wl_ldc rfl _ _ rfl _ (hv.vars.row (by first | exact .head _ | exact .tail _ (.head _) | exact .tail _ (.tail _ (.head _)) | exact .tail _ (.tail _ (.tail _ (.head _))) | exact .tail _ (.tail _ (.tail _ (.tail _ (.head _)))) | exact .tail _ (.tail _ (.tail _ (.tail _ (.tail _ (.head _))))) | exact .tail _ (.tail _ (.tail _ (.tail _ (.tail _ (.tail _ (.head _)))))) | exact .tail _ (.tail _ (.tail _ (.tail _ (.tail _ (.tail _ (.tail _ (.head _))))))))) _ Tryz.underlying25 rfl _ rfl ?_)
    | ((with_reducible refine at_load (T := 26) ?_); refine wl_ldc rfl _ _ rfl _ (hv.vars.row (by first | exact .head _ | exact .tail _ (.head _) | exact .tail _ (.tail _ (.head _)) | exact .tail _ (.tail _ (.tail _ (.head _))) | exact .tail _ (.tail _ (.tail _ (.tail _ (.head _)))) | exact .tail _ (.tail _ (.tail _ (.tail _ (.tail _ (.head _))))) | exact .tail _ (.tail _ (.tail _ (.tail _ (.tail _ (.tail _ (.head _)))))) | exact .tail _ (.tail _ (.tail _ (.tail _ (.tail _ (.tail _ (.tail _ (.head _))))))))) _ Tryz.underlying26 rfl _ rfl ?_)
    | ((with_reducible refine at_load (T := 23) ?_); refine wl_ldc rfl _ _ rfl _ (hv.vars.row (by first | exact .head _ | exact .tail _ (.head _) | exact .tail _ (.tail _ (.head _)) | exact .tail _ (.tail _ (.tail _ (.head _))) | exact .tail _ (.tail _ (.tail _ (.tail _ (.head _)))) | exact .tail _ (.tail _ (.tail _ (.tail _ (.tail _ (.head _))))) | exact .tail _ (.tail _ (.tail _ (.tail _ (.tail _ (.tail _ (.head _)))))) | exact .tail _ (.tail _ (.tail _ (.tail _ (.tail _ (.tail _ (.tail _ (.head _))))))))) _ Tryz.underlying23 rfl _ rfl ?_)
    | ((with_reducible refine at_load (T := 24) ?_); refine wl_ldc rfl _ _ rfl _ (hv.vars.row (by first | exact .head _ | exact .tail _ (.head _) | exact .tail _ (.tail _ (.head _)) | exact .tail _ (.tail _ (.tail _ (.head _))) | exact .tail _ (.tail _ (.tail _ (.tail _ (.head _)))) | exact .tail _ (.tail _ (.tail _ (.tail _ (.tail _ (.head _))))) | exact .tail _ (.tail _ (.tail _ (.tail _ (.tail _ (.tail _ (.head _)))))) | exact .tail _ (.tail _ (.tail _ (.tail _ (.tail _ (.tail _ (.tail _ (.head _))))))))) _ Tryz.underlying24 rfl _ rfl ?_))
  go_loopw [5] (fun i wr => ∃ k : Nat, k ≤ sn ∧ i = .int .i64 (k : Nat) ∧ Mem w wr [(b3, #[.int .i64 st, .int .i64 pc, .slice ua sn uc, .slice ya cn yc, .int .u64 (wk : Nat), .int .i64 sk, .int .i64 er]), (b2, #[.int .i64 st, .int .i64 pc, .slice sa sn sc, .slice ca cn cc, .int .u64 (wk : Nat), .int .i64 sk, .int .i64 er])] [(1, .slice sa sn sc, cellsU S), (1, .slice ua sn uc, cellsU S), (1, .slice ca cn cc, cellsN C), (1, .slice ya cn yc, cellsN C)]) (fun i _ => sn - (intOf i).toNat)
  case atStart => exact ⟨0, by omega, rfl, hv⟩
  case round =>
    clear hv
    obtain ⟨k, hk, rfl, hv⟩ := hrel
    rename_i wr
    by_cases hk2 : k < sn
    · have hki : (k : Int) < (sn : Int) := by omega
      have hkl : k < S.length := by rw [HS.out]; exact hk2
      obtain ⟨x, hx⟩ : ∃ x, S[k] = x := ⟨_, rfl⟩
      have HXK : Hid ((cellsU S)[k]? = some (.int .u64 (x : Nat))) := Lib.hid (by simp [cellsU, List.getElem?_eq_getElem hkl, hx])
      obtain ⟨sb, so, _, _, e, _⟩ := (hv.rd Mem.z).some (by rw [cellsU_len]; omega)
      cases e
      obtain ⟨ub, uo, _, _, e, _⟩ := (hv.rd (Mem.s Mem.z)).some (by rw [cellsU_len]; omega)
      cases e
      have HA := Lib.hid (Any.rd_start hv Mem.z)
      have HB := Lib.hid (Any.rd_start hv (Mem.s Mem.z))
      clear hx hkl
      go_wp2_with (first
        | ((with_reducible refine at_load (T := 23) ?_); refine wl_ldc rfl _ _ rfl _ (hv.vars.row (by first | exact .head _ | exact .tail _ (.head _) | exact .tail _ (.tail _ (.head _)) | exact .tail _ (.tail _ (.tail _ (.head _))) | exact .tail _ (.tail _ (.tail _ (.tail _ (.head _)))) | exact .tail _ (.tail _ (.tail _ (.tail _ (.tail _ (.head _))))) | exact .tail _ (.tail _ (.tail _ (.tail _ (.tail _ (.tail _ (.head _)))))) | exact .tail _ (.tail _ (.tail _ (.tail _ (.tail _ (.tail _ (.tail _ (.head _))))))))) _ Tryz.underlying23 rfl _ rfl ?_))
      refine Any.wp_region_walk [⟨[], none⟩, ⟨[1001], none⟩, ⟨[], none⟩, ⟨[], none⟩, ⟨[], none⟩, ⟨[], none⟩, ⟨[1000], none⟩, ⟨[], none⟩, ⟨[], none⟩, ⟨[], none⟩, ⟨[], none⟩] [.val, .val, .val, .val, .val, .val, .val, .val, .val, .val, .val] (by kernel_rfl) (by kernel_rfl) hv.vars ?_
      simp only [List.length_cons, List.length_nil, Nat.zero_add, Any.someVals]
      iterate 11 apply Exists.intro
      repeat (first
        | (refine Any.E_off rfl ?_; simp only [Act.put, List.setIfInBounds_toArray, List.set_cons_succ, List.set_cons_zero])
        | (apply Any.E_pureq rfl rfl rfl
           case h => intro K hK; go_big_quiet_op; (refine hK _ ?_; rfl)
           case hr => exact fun _ => rfl
           simp only [Act.put, List.setIfInBounds_toArray, List.set_cons_succ, List.set_cons_zero])
        | (apply Any.E_val rfl rfl rfl rfl
           case h =>
             intro E' hA K hK
             first
               | ((with_reducible refine Any.at_qload (T := 23) ?_); refine Any.q_ldc 1000 hA (by decide) rfl rfl _ Tryz.underlying23 rfl _ rfl ?_; refine hK _ ?_; rfl)
               | ((with_reducible refine Any.at_qload (T := 23) ?_); refine Any.q_ldc 1001 hA (by decide) rfl rfl _ Tryz.underlying23 rfl _ rfl ?_; refine hK _ ?_; rfl)
               | ((with_reducible refine Any.at_qload (T := 25) ?_); refine Any.q_rd HA.out k rfl _ Tryz.underlying25 rfl (.int .u64 (x : Nat)) HXK.out ?_; refine hK _ ?_; rfl)
               | ((with_reducible refine Any.at_qload (T := 25) ?_); refine Any.q_rd HB.out k rfl _ Tryz.underlying25 rfl (.int .u64 (x : Nat)) HXK.out ?_; refine hK _ ?_; rfl)
               | (go_big_quiet_op; first
                 | (refine hK _ ?_; rfl)
                 | (refine ⟨_, fun _ _ => rfl, ?_⟩; refine hK _ ?_; rfl)
                 | (apply Exists.intro; refine ⟨fun w1 hw1 => ?_, ?_⟩; · (first
                     | fail)
                    refine hK _ ?_; rfl))
           case hD => rfl
           simp only [Act.put, List.setIfInBounds_toArray, List.set_cons_succ, List.set_cons_zero])
        | ((with_reducible refine Any.at_ealloc ?_); refine Any.E_lay rfl rfl rfl (fun _ => rfl) ?_; intro B; simp only [Act.put, List.setIfInBounds_toArray, List.set_cons_succ, List.set_cons_zero]))
      try any_goals exact undef
      refine Any.E_nil ?_
      intro w9 hE9
      replace hv := hE9.mem hv [1000, 1001] (by decide)
      clear hE9
      go_wp2
      go_roundw
      case rel => exact ⟨k + 1, by omega, by go_num, hv⟩
      case measure => simp [intOf]; omega
    · have hki : ¬ (k : Int) < (sn : Int) := by omega
      go_wp2_with (first
        | ((with_reducible refine at_load (T := 23) ?_); refine wl_ldc rfl _ _ rfl _ (hv.vars.row (by first | exact .head _ | exact .tail _ (.head _) | exact .tail _ (.tail _ (.head _)) | exact .tail _ (.tail _ (.tail _ (.head _))) | exact .tail _ (.tail _ (.tail _ (.tail _ (.head _)))) | exact .tail _ (.tail _ (.tail _ (.tail _ (.tail _ (.head _))))) | exact .tail _ (.tail _ (.tail _ (.tail _ (.tail _ (.tail _ (.head _)))))) | exact .tail _ (.tail _ (.tail _ (.tail _ (.tail _ (.tail _ (.tail _ (.head _))))))))) _ Tryz.underlying23 rfl _ rfl ?_))
      go_loopw [6] (fun i wr => ∃ k : Nat, k ≤ cn ∧ i = .int .i64 (k : Nat) ∧ Mem w wr [(b3, #[.int .i64 st, .int .i64 pc, .slice ua sn uc, .slice ya cn yc, .int .u64 (wk : Nat), .int .i64 sk, .int .i64 er]), (b2, #[.int .i64 st, .int .i64 pc, .slice sa sn sc, .slice ca cn cc, .int .u64 (wk : Nat), .int .i64 sk, .int .i64 er])] [(1, .slice sa sn sc, cellsU S), (1, .slice ua sn uc, cellsU S), (1, .slice ca cn cc, cellsN C), (1, .slice ya cn yc, cellsN C)]) (fun i _ => cn - (intOf i).toNat)
      case atStart => exact ⟨0, by omega, rfl, hv⟩
      case round =>
        clear hv
        obtain ⟨k, hk, rfl, hv⟩ := hrel
        rename_i wr
        by_cases hk2 : k < cn
        · have hki : (k : Int) < (cn : Int) := by omega
          have hkl : k < C.length := by rw [HC.out]; exact hk2
          obtain ⟨x, hx⟩ : ∃ x, C[k] = x := ⟨_, rfl⟩
          have HXK : Hid ((cellsN C)[k]? = some (.int .i64 x)) := Lib.hid (by simp [cellsN, List.getElem?_eq_getElem hkl, hx])
          obtain ⟨cb, co, _, _, e, _⟩ := (hv.rd (Mem.s (Mem.s Mem.z))).some (by rw [cellsN_len]; omega)
          cases e
          obtain ⟨yb, yo, _, _, e, _⟩ := (hv.rd (Mem.s (Mem.s (Mem.s Mem.z)))).some (by rw [cellsN_len]; omega)
          cases e
          have HA := Lib.hid (Any.rd_start hv (Mem.s (Mem.s Mem.z)))
          have HB := Lib.hid (Any.rd_start hv (Mem.s (Mem.s (Mem.s Mem.z))))
          clear hx hkl
          go_wp2_with (first
            | ((with_reducible refine at_load (T := 24) ?_); refine wl_ldc rfl _ _ rfl _ (hv.vars.row (by first | exact .head _ | exact .tail _ (.head _) | exact .tail _ (.tail _ (.head _)) | exact .tail _ (.tail _ (.tail _ (.head _))) | exact .tail _ (.tail _ (.tail _ (.tail _ (.head _)))) | exact .tail _ (.tail _ (.tail _ (.tail _ (.tail _ (.head _))))) | exact .tail _ (.tail _ (.tail _ (.tail _ (.tail _ (.tail _ (.head _)))))) | exact .tail _ (.tail _ (.tail _ (.tail _ (.tail _ (.tail _ (.tail _ (.head _))))))))) _ Tryz.underlying24 rfl _ rfl ?_))
          refine Any.wp_region_walk [⟨[], none⟩, ⟨[1001], none⟩, ⟨[], none⟩, ⟨[], none⟩, ⟨[], none⟩, ⟨[], none⟩, ⟨[1000], none⟩, ⟨[], none⟩, ⟨[], none⟩, ⟨[], none⟩, ⟨[], none⟩] [.val, .val, .val, .val, .val, .val, .val, .val, .val, .val, .val] (by kernel_rfl) (by kernel_rfl) hv.vars ?_
          simp only [List.length_cons, List.length_nil, Nat.zero_add, Any.someVals]
          iterate 11 apply Exists.intro
          repeat (first
            | (refine Any.E_off rfl ?_; simp only [Act.put, List.setIfInBounds_toArray, List.set_cons_succ, List.set_cons_zero])
            | (apply Any.E_pureq rfl rfl rfl
               case h => intro K hK; go_big_quiet_op; (refine hK _ ?_; rfl)
               case hr => exact fun _ => rfl
               simp only [Act.put, List.setIfInBounds_toArray, List.set_cons_succ, List.set_cons_zero])
            | (apply Any.E_val rfl rfl rfl rfl
               case h =>
                 intro E' hA K hK
                 first
                   | ((with_reducible refine Any.at_qload (T := 24) ?_); refine Any.q_ldc 1000 hA (by decide) rfl rfl _ Tryz.underlying24 rfl _ rfl ?_; refine hK _ ?_; rfl)
                   | ((with_reducible refine Any.at_qload (T := 24) ?_); refine Any.q_ldc 1001 hA (by decide) rfl rfl _ Tryz.underlying24 rfl _ rfl ?_; refine hK _ ?_; rfl)
                   | ((with_reducible refine Any.at_qload (T := 3) ?_); refine Any.q_rd HA.out k rfl _ Tryz.underlying3 rfl (.int .i64 x) HXK.out ?_; refine hK _ ?_; rfl)
                   | ((with_reducible refine Any.at_qload (T := 3) ?_); refine Any.q_rd HB.out k rfl _ Tryz.underlying3 rfl (.int .i64 x) HXK.out ?_; refine hK _ ?_; rfl)
                   | (go_big_quiet_op; first
                     | (refine hK _ ?_; rfl)
                     | (refine ⟨_, fun _ _ => rfl, ?_⟩; refine hK _ ?_; rfl)
                     | (apply Exists.intro; refine ⟨fun w1 hw1 => ?_, ?_⟩; · (first
                         | fail)
                        refine hK _ ?_; rfl))
               case hD => rfl
               simp only [Act.put, List.setIfInBounds_toArray, List.set_cons_succ, List.set_cons_zero])
            | ((with_reducible refine Any.at_ealloc ?_); refine Any.E_lay rfl rfl rfl (fun _ => rfl) ?_; intro B; simp only [Act.put, List.setIfInBounds_toArray, List.set_cons_succ, List.set_cons_zero]))
          try any_goals exact undef
          refine Any.E_nil ?_
          intro w9 hE9
          replace hv := hE9.mem hv [1000, 1001] (by decide)
          clear hE9
          go_wp2
          go_roundw
          case rel => exact ⟨k + 1, by omega, by go_num, hv⟩
          case measure => simp [intOf]; omega
        · have hki : ¬ (k : Int) < (cn : Int) := by omega
          go_wp2_with (first
            | ((with_reducible refine at_load (T := 24) ?_); refine wl_ldc rfl _ _ rfl _ (hv.vars.row (by first | exact .head _ | exact .tail _ (.head _) | exact .tail _ (.tail _ (.head _)) | exact .tail _ (.tail _ (.tail _ (.head _))) | exact .tail _ (.tail _ (.tail _ (.tail _ (.head _)))) | exact .tail _ (.tail _ (.tail _ (.tail _ (.tail _ (.head _))))) | exact .tail _ (.tail _ (.tail _ (.tail _ (.tail _ (.tail _ (.head _)))))) | exact .tail _ (.tail _ (.tail _ (.tail _ (.tail _ (.tail _ (.tail _ (.head _))))))))) _ Tryz.underlying24 rfl _ rfl ?_))
          go_ret
          exact ⟨rfl, hv.below⟩
end Go.Proofs.YthpodinbbmgfoaaGreat
