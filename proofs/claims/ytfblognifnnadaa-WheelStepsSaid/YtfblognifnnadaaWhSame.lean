/-
  Two wheels alike: the reference's Same says so.
-/
import Derived.Test.YtfblognifnnadaaWhArg
import Derived.Test.YtfblognifnnadaaEq
set_option linter.unusedVariables false
set_option linter.unusedSimpArgs false
namespace Go.Proofs.Ytfblognifnnadaa
open Go.Proofs.Wh Go.RowKit
theorem fieldsTm : Try.prog.underlying 63 = some (.struct (Try.prog.fieldsOf 63)) := by kernel_rfl
theorem equalIn_T0 (w : World) (d : Nat) (x1 : Nat) (x2 : Int) : (Op.equalIn (d + 2) 63 (.agg #[.int .u64 (x1 : Nat), .int .i64 x2]) (.agg #[.int .u64 (x1 : Nat), .int .i64 x2])).run Try.prog w = .ok true w := by
  have h := run_eqStruct (P := Try.prog) w (d + 1) 63 #[.int .u64 (x1 : Nat), .int .i64 x2] #[.int .u64 (x1 : Nat), .int .i64 x2] [(22, 0), (3, 1)] [(x1 : Int) == (x1 : Int), x2 == x2] fieldsTm (by kernel_rfl) (by kernel_rfl) rfl (fun i hi hc => by
    match i, hi with
    | 0, _ => exact ⟨_, _, run_part_cell w _ _ _ _ _ Try.underlying22 rfl rfl, run_part_cell w _ _ _ _ _ Try.underlying22 rfl rfl, run_equalIn_int w d _ _ _ _ _ Try.underlying22⟩
    | 1, _ => exact ⟨_, _, run_part_cell w _ _ _ _ _ Try.underlying3 rfl rfl, run_part_cell w _ _ _ _ _ Try.underlying3 rfl rfl, run_equalIn_int w d _ _ _ _ _ Try.underlying3⟩)
  rw [h]
  simp
theorem equalIn_T (w : World) (x1 : Nat) (x2 : Int) : (Op.equalIn 10000 63 (.agg #[.int .u64 (x1 : Nat), .int .i64 x2]) (.agg #[.int .u64 (x1 : Nat), .int .i64 x2])).run Try.prog w = .ok true w := equalIn_T0 w 9998 x1 x2
set_option maxRecDepth 100000 in
set_option maxHeartbeats 4000000 in
theorem Same_alike (now : Nat) (sva svb : List Value) (S : List (List Tm)) (w : World) (R : List (Nat × Value × List Value)) (hr0 : ∀ x ∈ R, Rd w x.1 x.2.1 x.2.2) (hia : InW R sva S) (hib : InW R svb S) (hlen : ∀ l ∈ S, l.length ≤ 1000) :
    Calls Try.prog 12 #[.agg (rowW now sva), .agg (rowW now svb)] w fun e w' => e = .returned (.bool true) ∧ New w w' := by
  have hv := Mem.all hr0
  have HIA := Lib.hid hia
  have HIB := Lib.hid hib
  have HLE := Lib.hid hlen
  have HNA : Hid ((rowW now sva)[0]? = some (.int .u64 (now : Nat))) := Lib.hid rfl
  have HNB : Hid ((rowW now svb)[0]? = some (.int .u64 (now : Nat))) := Lib.hid rfl
  have y1 : ((now : Int) != (now : Int)) = false := by simp
  clear hia hib hlen hr0
  go_enter Try.func12, Try.ntmps12
  go_wp2_with (first
    | ((with_reducible refine at_box (T := 26) (dst := some 2) ?_); refine wl_newb rfl (rowW now sva) 26 (fun _ => rfl) ?_; intro b2 w2 hm2; replace hv := hv.madeAt hm2; clear hm2)
    | ((with_reducible refine at_box (T := 26) (dst := some 3) ?_); refine wl_newb rfl (rowW now svb) 26 (fun _ => rfl) ?_; intro b3 w2 hm2; replace hv := hv.madeAt hm2; clear hm2)
    | ((with_reducible refine at_load (T := 22) ?_); refine wl_ldc rfl b2 0 rfl _ (hv.vars.row (by first | exact .head _ | exact .tail _ (.head _) | exact .tail _ (.tail _ (.head _)) | exact .tail _ (.tail _ (.tail _ (.head _))) | exact .tail _ (.tail _ (.tail _ (.tail _ (.head _)))) | exact .tail _ (.tail _ (.tail _ (.tail _ (.tail _ (.head _))))) | exact .tail _ (.tail _ (.tail _ (.tail _ (.tail _ (.tail _ (.head _)))))) | exact .tail _ (.tail _ (.tail _ (.tail _ (.tail _ (.tail _ (.tail _ (.head _))))))))) _ Try.underlying22 rfl (.int .u64 (now : Nat)) HNA.out ?_)
    | ((with_reducible refine at_load (T := 22) ?_); refine wl_ldc rfl b3 0 rfl _ (hv.vars.row (by first | exact .head _ | exact .tail _ (.head _) | exact .tail _ (.tail _ (.head _)) | exact .tail _ (.tail _ (.tail _ (.head _))) | exact .tail _ (.tail _ (.tail _ (.tail _ (.head _)))) | exact .tail _ (.tail _ (.tail _ (.tail _ (.tail _ (.head _))))) | exact .tail _ (.tail _ (.tail _ (.tail _ (.tail _ (.tail _ (.head _)))))) | exact .tail _ (.tail _ (.tail _ (.tail _ (.tail _ (.tail _ (.tail _ (.head _))))))))) _ Try.underlying22 rfl (.int .u64 (now : Nat)) HNB.out ?_))
  go_loopw [5] (fun iv wr => ∃ i : Nat, i ≤ 8 ∧ iv = .int .i64 (i : Nat) ∧ Mem w wr [(b3, (rowW now svb)), (b2, (rowW now sva))] R) (fun iv _ => 8 - (intOf iv).toNat)
  case atStart => exact ⟨0, Nat.zero_le _, rfl, hv⟩
  case round =>
    clear hv
    obtain ⟨i, hi0, rfl, hv⟩ := hrel
    by_cases hi : i < 8
    · have hki : (i : Int) < 8 := by omega
      have hSi : i < S.length := by rw [HIA.out.2.1]; exact hi
      have hsa : i < sva.length := by rw [HIA.out.1]; exact hi
      have hsb : i < svb.length := by rw [HIB.out.1]; exact hi
      obtain ⟨l, hl⟩ : ∃ l, S[i] = l := ⟨_, rfl⟩
      have hma := HIA.out.2.2 i sva[i] S[i] (List.getElem?_eq_getElem hsa) (List.getElem?_eq_getElem hSi)
      have hmb := HIB.out.2.2 i svb[i] S[i] (List.getElem?_eq_getElem hsb) (List.getElem?_eq_getElem hSi)
      obtain ⟨va, hva⟩ : ∃ v, sva[i] = v := ⟨_, rfl⟩
      obtain ⟨vb, hvb⟩ : ∃ v, svb[i] = v := ⟨_, rfl⟩
      have hga := rowW_get (now := now) (List.getElem?_eq_getElem hsa)
      have hgb := rowW_get (now := now) (List.getElem?_eq_getElem hsb)
      have hll := HLE.out S[i] (List.getElem_mem hSi)
      rw [hva, hl] at hma
      rw [hvb, hl] at hmb
      rw [hva] at hga
      rw [hvb] at hgb
      rw [hl] at hll
      obtain ⟨sa, sn, sc, rfl, hq9⟩ := id (hv.rd hma)
      clear hq9
      obtain ⟨ta, tn, tc, rfl, hq9⟩ := id (hv.rd hmb)
      clear hq9
      have hl1 := len_rdT (hv.rd hma)
      have hl2 := len_rdT (hv.rd hmb)
      obtain rfl : sn = tn := by omega
      have HMA := Lib.hid hma
      have HMB := Lib.hid hmb
      have HLN := Lib.hid hl1
      have HGA := Lib.hid hga
      have HGB := Lib.hid hgb
      have HL1 := Lib.hid hll
      have HK0 := Lib.hid hi
      have y2 : ((sn : Int) != (sn : Int)) = false := by simp
      clear hSi hsa hsb hl hma hmb hva hvb hga hgb hll hl1 hl2 hi0 hi
      go_wp2
      refine Any.wp_region_walk [⟨[], none⟩, ⟨[], none⟩, ⟨[], none⟩, ⟨[1001], none⟩, ⟨[], none⟩, ⟨[], none⟩, ⟨[], none⟩, ⟨[], none⟩, ⟨[1000], none⟩, ⟨[], none⟩, ⟨[], none⟩] [.val, .val, .val, .val, .val, .val, .val, .val, .val, .val, .val] (by kernel_rfl) (by kernel_rfl) hv.vars ?_
      simp only [List.length_cons, List.length_nil, Nat.zero_add, Any.someVals]
      iterate 11 apply Exists.intro
      repeat (first
        | (refine Any.E_off rfl ?_; simp only [Act.put, List.setIfInBounds_toArray, List.set_cons_succ, List.set_cons_zero])
        | (apply Any.E_pureq rfl rfl rfl
           case h => intro K hK; go_big_quiet_op; (refine hK _ ?_; rfl)
           case hr => exact fun _ => rfl
           simp only [Act.put, List.setIfInBounds_toArray, List.set_cons_succ, List.set_cons_zero])
        | (apply Any.E_val rfl rfl rfl rfl
           case h =>
             intro E' hA K hK
             first
               | ((with_reducible refine Any.at_qload (T := 23) ?_); refine Any.q_ldc 1001 hA (by decide) rfl rfl _ Try.underlying23 rfl (.slice sa sn sc) HGA.out ?_; refine hK _ ?_; rfl)
               | ((with_reducible refine Any.at_qload (T := 23) ?_); refine Any.q_ldc 1000 hA (by decide) rfl rfl _ Try.underlying23 rfl (.slice ta sn tc) HGB.out ?_; refine hK _ ?_; rfl)
               | (go_big_quiet_op; first
                 | (refine hK _ ?_; rfl)
                 | (refine ⟨_, fun _ _ => rfl, ?_⟩; refine hK _ ?_; rfl)
                 | (apply Exists.intro; refine ⟨fun w1 hw1 => ?_, ?_⟩; · (first
                     | fail)
                    refine hK _ ?_; rfl))
           case hD => rfl
           simp only [Act.put, List.setIfInBounds_toArray, List.set_cons_succ, List.set_cons_zero])
        | ((with_reducible refine Any.at_ealloc ?_); refine Any.E_lay rfl rfl rfl (fun _ => rfl) ?_; intro B; simp only [Act.put, List.setIfInBounds_toArray, List.set_cons_succ, List.set_cons_zero]))
      try any_goals exact undef
      refine Any.E_nil ?_
      intro w9 hE9
      replace hv : Mem w w9 [(b3, (rowW now svb)), (b2, (rowW now sva))] _ := hE9.mem hv [1000, 1001] (by decide)
      clear hE9
      go_wp2
      go_loopw [6] (fun kv wr => ∃ k : Nat, k ≤ sn ∧ kv = .int .i64 (k : Nat) ∧ Mem w wr [(b3, (rowW now svb)), (b2, (rowW now sva))] R) (fun kv _ => sn - (intOf kv).toNat)
      case atStart => exact ⟨0, Nat.zero_le _, rfl, hv⟩
      case round =>
        clear hv
        obtain ⟨k, hk0, rfl, hv⟩ := hrel
        by_cases hk : k < sn
        · have c1 : (k : Int) < (sn : Int) := by omega
          have hkl : k < l.length := by rw [HLN.out]; exact hk
          obtain ⟨⟨x1, x2⟩, hx⟩ : ∃ x, l[k] = x := ⟨_, rfl⟩
          have HK : Hid (((cellsT l).drop (k * 2)).take 2 = [.int .u64 (x1 : Nat), .int .i64 x2]) := Lib.hid (by rw [cellsT_part l k hkl, hx])
          obtain ⟨sb, so, _, _, e, hq8⟩ := (hv.rd HMA.out).some (by rw [cellsT_len]; omega)
          clear hq8
          cases e
          obtain ⟨tb, to, _, _, e, hq8⟩ := (hv.rd HMB.out).some (by rw [cellsT_len]; omega)
          clear hq8
          cases e
          have HPA := Lib.hid (Any.rd_start hv HMA.out)
          have HPB := Lib.hid (Any.rd_start hv HMB.out)
          have HKN := Lib.hid hk
          have hkb : (k : Int) ≤ 1000 := by have := HL1.out; have := HLN.out; omega
          have HQ : ∀ w : World, (Op.equalIn 10000 63 (.agg #[.int .u64 (x1 : Nat), .int .i64 x2]) (.agg #[.int .u64 (x1 : Nat), .int .i64 x2])).run Try.prog w = .ok true w := fun w => equalIn_T w x1 x2
          clear hkl hx hk0 hk
          go_wp2_with (first
            | ((with_reducible refine at_load (T := 23) ?_); refine wl_ldc rfl b2 (1 + i) rfl _ (hv.vars.row (by first | exact .head _ | exact .tail _ (.head _) | exact .tail _ (.tail _ (.head _)) | exact .tail _ (.tail _ (.tail _ (.head _))) | exact .tail _ (.tail _ (.tail _ (.tail _ (.head _)))) | exact .tail _ (.tail _ (.tail _ (.tail _ (.tail _ (.head _))))) | exact .tail _ (.tail _ (.tail _ (.tail _ (.tail _ (.tail _ (.head _)))))) | exact .tail _ (.tail _ (.tail _ (.tail _ (.tail _ (.tail _ (.tail _ (.head _))))))))) _ Try.underlying23 rfl (.slice (some ⟨sb, so, none⟩) sn sc) HGA.out ?_))
          try simp only [Act.put, List.setIfInBounds_toArray, List.set_cons_succ, List.set_cons_zero]
          refine Any.wp_region_walk [⟨[], none⟩, ⟨[], none⟩, ⟨[], none⟩, ⟨[1001], none⟩, ⟨[], none⟩, ⟨[], none⟩, ⟨[], none⟩, ⟨[], none⟩, ⟨[], none⟩, ⟨[], none⟩, ⟨[1000], none⟩, ⟨[], none⟩, ⟨[], none⟩, ⟨[], none⟩, ⟨[], none⟩] [.val, .val, .val, .val, .val, .val, .val, .val, .val, .val, .val, .val, .val, .val, .val] (by kernel_rfl) (by kernel_rfl) hv.vars ?_
          simp only [List.length_cons, List.length_nil, Nat.zero_add, Any.someVals]
          iterate 15 apply Exists.intro
          repeat (first
            | (refine Any.E_off rfl ?_; simp only [Act.put, List.setIfInBounds_toArray, List.set_cons_succ, List.set_cons_zero])
            | (apply Any.E_pureq rfl rfl rfl
               case h => intro K hK; go_big_quiet_op; (refine hK _ ?_; rfl)
               case hr => exact fun _ => rfl
               simp only [Act.put, List.setIfInBounds_toArray, List.set_cons_succ, List.set_cons_zero])
            | (apply Any.E_val rfl rfl rfl rfl
               case h =>
                 intro E' hA K hK
                 first
                   | ((with_reducible refine Any.at_qload (T := 23) ?_); refine Any.q_ldc 1001 hA (by decide) rfl rfl _ Try.underlying23 rfl (.slice (some ⟨sb, so, none⟩) sn sc) HGA.out ?_; refine hK _ ?_; rfl)
                   | ((with_reducible refine Any.at_qload (T := 23) ?_); refine Any.q_ldc 1000 hA (by decide) rfl rfl _ Try.underlying23 rfl (.slice (some ⟨tb, to, none⟩) sn tc) HGB.out ?_; refine hK _ ?_; rfl)
                   | ((with_reducible refine Any.at_qload (T := 63) ?_); refine Any.q_rdv HPA.out (k * 2) rfl 2 _ Try.underlying63 rfl infoTm (by decide) #[.int .u64 (x1 : Nat), .int .i64 x2] HK.out rfl ?_; refine hK _ ?_; rfl)
                   | ((with_reducible refine Any.at_qload (T := 63) ?_); refine Any.q_rdv HPB.out (k * 2) rfl 2 _ Try.underlying63 rfl infoTm (by decide) #[.int .u64 (x1 : Nat), .int .i64 x2] HK.out rfl ?_; refine hK _ ?_; rfl)
                   | (go_big_quiet_op; first
                     | (refine hK _ ?_; rfl)
                     | (refine ⟨_, fun _ _ => rfl, ?_⟩; refine hK _ ?_; rfl)
                     | (apply Exists.intro; refine ⟨fun w1 hw1 => ?_, ?_⟩; · (first
                         | fail)
                        refine hK _ ?_; rfl))
               case hD => rfl
               simp only [Act.put, List.setIfInBounds_toArray, List.set_cons_succ, List.set_cons_zero])
            | ((with_reducible refine Any.at_ealloc ?_); refine Any.E_lay rfl rfl rfl (fun _ => rfl) ?_; intro B; simp only [Act.put, List.setIfInBounds_toArray, List.set_cons_succ, List.set_cons_zero]))
          try any_goals exact undef
          refine Any.E_nil ?_
          intro w9 hE9
          replace hv : Mem w w9 [(b3, (rowW now svb)), (b2, (rowW now sva))] _ := hE9.mem hv [1000, 1001] (by decide)
          clear hE9
          go_wp2
          have hkn := HKN.out
          go_roundw
          case rel => exact ⟨k + 1, by omega, by go_num, hv⟩
          case measure => simp [intOf]; omega
        · have c1 : ¬ (k : Int) < (sn : Int) := by omega
          clear hk hk0
          go_wp2_with (first
            | ((with_reducible refine at_load (T := 23) ?_); refine wl_ldc rfl b2 (1 + i) rfl _ (hv.vars.row (by first | exact .head _ | exact .tail _ (.head _) | exact .tail _ (.tail _ (.head _)) | exact .tail _ (.tail _ (.tail _ (.head _))) | exact .tail _ (.tail _ (.tail _ (.tail _ (.head _)))) | exact .tail _ (.tail _ (.tail _ (.tail _ (.tail _ (.head _))))) | exact .tail _ (.tail _ (.tail _ (.tail _ (.tail _ (.tail _ (.head _)))))) | exact .tail _ (.tail _ (.tail _ (.tail _ (.tail _ (.tail _ (.tail _ (.head _))))))))) _ Try.underlying23 rfl (.slice sa sn sc) HGA.out ?_))
          have hin := HK0.out
          go_roundw
          case rel => exact ⟨i + 1, by omega, by go_num, hv⟩
          case measure => simp [intOf]; omega
    · have hki : ¬ (i : Int) < 8 := by omega
      clear hi hi0
      go_wp2
      go_ret
      exact ⟨rfl, hv.below⟩
end Go.Proofs.Ytfblognifnnadaa
