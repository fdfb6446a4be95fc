/-
  One slot's timers: slotted.
-/
import Derived.Test.YtfblognifnnadaaWhRChk
set_option linter.unusedVariables false
set_option linter.unusedSimpArgs false
namespace Go.Proofs.Wh
open Go Go.RowKit
theorem cmpT_ge {a b : Tm} (h : aheadB a b = false) : 0 ≤ cmpT a b := by
  rcases Int.lt_or_le (cmpT a b) 0 with g | g
  · rw [aheadB_iff.2 (cmpT_lt.1 g)] at h; cases h
  · exact g
theorem cmpT_neg {a b : Tm} (h : aheadB a b = true) : cmpT a b < 0 := cmpT_lt.2 (aheadB_iff.1 h)
end Go.Proofs.Wh
namespace Go.Proofs.Ytfblognifnnadaa
open Go.Proofs.Wh Go.RowKit
set_option maxRecDepth 100000 in
set_option maxHeartbeats 4000000 in
theorem slotted_any (now i : Nat) (hi8 : i < 8) (sv : List Value) (S : List (List Tm)) (l : List Tm) (hl : S[i]? = some l) (w0 w : World) (L : List (Nat × Array Value)) (R : List (Nat × Value × List Value)) (hv0 : Mem w0 w L R) (hi : InW R sv S) (hlen : l.length ≤ 1000) :
    Calls Try.prog 30 #[.agg (rowW now sv), .int .i64 (i : Nat)] w fun e w' => e = .returned (.bool (slotB now i none l)) ∧ New w w' := by
  have hv : Mem w w [] R := ⟨Vars.nil w, fun x hx => ⟨(hv0.rds x hx).1, fun _ _ _ _ _ _ p hp => (List.not_mem_nil hp).elim⟩⟩
  have HNOW : Hid ((rowW now sv)[0]? = some (.int .u64 (now : Nat))) := Lib.hid rfl
  have hsi : i < sv.length := by rw [hi.1]; exact hi8
  obtain ⟨v, hvv⟩ : ∃ v, sv[i] = v := ⟨_, rfl⟩
  have hg := rowW_get (now := now) (List.getElem?_eq_getElem hsi)
  have hm := hi.2.2 i sv[i] l (List.getElem?_eq_getElem hsi) hl
  rw [hvv] at hg hm
  obtain ⟨sa, sn, sc, rfl, hq9⟩ := id (hv.rd hm)
  clear hq9
  have HSM := Lib.hid hm
  have HLN := Lib.hid (len_rdT (hv.rd hm))
  have HG := Lib.hid hg
  have HL1 := Lib.hid hlen
  have hki : (i : Int) < 8 := by omega
  obtain ⟨c, hc⟩ : ∃ c, slotB now i none l = c := ⟨_, rfl⟩
  rw [hc]
  have HO : Hid (slotB now i (prevO l 0) (l.drop 0) = c) := Lib.hid hc
  clear hsi hvv hg hm hv0 hi hlen hl hc
  go_enter Try.func30, Try.ntmps30
  go_wp2_with (first
    | ((with_reducible refine at_box (T := 26) (dst := some 2) ?_); refine wl_newb rfl (rowW now sv) 26 (fun _ => rfl) ?_; intro b2 w2 hm2; replace hv := hv.madeAt hm2; clear hm2)
    | ((with_reducible refine at_load (T := 23) ?_); refine wl_ldc rfl b2 (1 + i) rfl _ (hv.vars.row (by first | exact .head _ | exact .tail _ (.head _) | exact .tail _ (.tail _ (.head _)) | exact .tail _ (.tail _ (.tail _ (.head _))) | exact .tail _ (.tail _ (.tail _ (.tail _ (.head _)))) | exact .tail _ (.tail _ (.tail _ (.tail _ (.tail _ (.head _))))) | exact .tail _ (.tail _ (.tail _ (.tail _ (.tail _ (.tail _ (.head _)))))) | exact .tail _ (.tail _ (.tail _ (.tail _ (.tail _ (.tail _ (.tail _ (.head _))))))))) _ Try.underlying23 rfl (.slice sa sn sc) HG.out ?_))
  go_loopw [12] (fun kv wr => ∃ k : Nat, k ≤ sn ∧ kv = .int .i64 (k : Nat) ∧ Mem w wr [(b2, (rowW now sv))] R ∧ Hid (slotB now i (prevO l k) (l.drop k) = c)) (fun kv _ => sn - (intOf kv).toNat)
  case atStart => exact ⟨0, Nat.zero_le _, rfl, hv, HO⟩
  case round =>
    clear hv HO
    obtain ⟨k, hk0, rfl, hv, HO⟩ := hrel
    by_cases hk : k < sn
    · have c1 : (k : Int) < (sn : Int) := by omega
      have hkl : k < l.length := by rw [HLN.out]; exact hk
      obtain ⟨⟨x1, x2⟩, hx⟩ : ∃ x, l[k] = x := ⟨_, rfl⟩
      have HK : Hid (((cellsT l).drop (k * 2)).take 2 = [.int .u64 (x1 : Nat), .int .i64 x2]) := Lib.hid (by rw [cellsT_part l k hkl, hx])
      have HKL := Lib.hid hkl
      have HX : Hid (l[k]? = some (x1, x2)) := Lib.hid (by rw [List.getElem?_eq_getElem hkl, hx])
      have HX0 : Hid (((#[.int .u64 (x1 : Nat), .int .i64 x2] : Array Value))[0]? = some (.int .u64 (x1 : Nat))) := Lib.hid rfl
      obtain ⟨sb, so, _, _, e, hq8⟩ := (hv.rd HSM.out).some (by rw [cellsT_len]; omega)
      clear hq8
      cases e
      have HKN := Lib.hid hk
      have hkb : (k : Int) ≤ 1000 := by have := HL1.out; have := HLN.out; omega
      have qx : IntKind.i64.wrap ((x1 : Int) % 8) = (x1 : Int) % 8 := IntWalk.i64_in _ (by omega)
      clear hkl hx hk0 hk
      by_cases ha : x1 % 8 = i
      · by_cases hb : now < x1
        · by_cases hc : x1 ≤ 1099511627776
          · by_cases hz : k = 0
            · have HP0 : Hid (prevO l k = none) := Lib.hid (if_pos hz)
              have HO2 : Hid (slotB now i (prevO l (k + 1)) (l.drop (k + 1)) = c) := Lib.hid (by
                have := HO.out
                rw [slotB_at HX.out] at this
                unfold tmB at this
                simp only [] at this
                rw [HP0.out, decide_eq_true (p := x1 % 8 = i) (by omega), decide_eq_true (p := now < x1) (by omega), decide_eq_true (p := x1 ≤ MaxT) (by unfold MaxT; omega)] at this
                simpa using this)
              have ya : ((x1 : Int) % 8 != (i : Int)) = false := by rw [bne_eq_false_iff_eq]; omega
              have yb : decide ((x1 : Int) ≤ (now : Int)) = false := decide_eq_false (by omega); have zb : decide ((x1 : Nat) ≤ (now : Nat)) = false := decide_eq_false (by omega)
              have yc : decide ((1099511627776 : Int) < (x1 : Int)) = false := decide_eq_false (by omega); have zc : decide ((1099511627776 : Nat) < (x1 : Nat)) = false := decide_eq_false (by omega)
              have yk : decide ((0 : Int) < (k : Int)) = false := decide_eq_false (by omega); have zk : decide ((0 : Nat) < (k : Nat)) = false := decide_eq_false (by omega)
              clear HO ha hb hc hz
              go_wp2_with (first
                | ((with_reducible refine at_load (T := 63) ?_); refine wl_rdv rfl (hv.rd HSM.out) (k * 2) rfl 2 _ Try.underlying63 rfl infoTm (by decide) #[.int .u64 (x1 : Nat), .int .i64 x2] HK.out rfl ?_)
                | ((with_reducible refine at_alloc (T := 63) (dst := some 6) ?_); refine wl_newb rfl #[.int .u64 0, .int .i64 0] 63 (fun _ => rfl) ?_; intro b6 w2 hm2; replace hv := hv.madeAt hm2; clear hm2)
                | ((with_reducible refine at_store (T := 63) ?_); refine wl_stv rfl b6 rfl _ rfl _ (hv.vars.row (by first | exact .head _ | exact .tail _ (.head _) | exact .tail _ (.tail _ (.head _)) | exact .tail _ (.tail _ (.tail _ (.head _))) | exact .tail _ (.tail _ (.tail _ (.tail _ (.head _)))) | exact .tail _ (.tail _ (.tail _ (.tail _ (.tail _ (.head _))))) | exact .tail _ (.tail _ (.tail _ (.tail _ (.tail _ (.tail _ (.head _)))))) | exact .tail _ (.tail _ (.tail _ (.tail _ (.tail _ (.tail _ (.tail _ (.head _))))))))) (hv.vars.sft (by first | exact .head _ | exact .tail _ (.head _) | exact .tail _ (.tail _ (.head _)) | exact .tail _ (.tail _ (.tail _ (.head _))) | exact .tail _ (.tail _ (.tail _ (.tail _ (.head _)))) | exact .tail _ (.tail _ (.tail _ (.tail _ (.tail _ (.head _))))) | exact .tail _ (.tail _ (.tail _ (.tail _ (.tail _ (.tail _ (.head _)))))) | exact .tail _ (.tail _ (.tail _ (.tail _ (.tail _ (.tail _ (.tail _ (.head _))))))))) 2 infoTm rfl rfl (by simp [Value.oneCell']) ?_; intro w2 hw2; (first | (replace hv := hv.set 0 rfl hw2) | (replace hv := hv.set 1 rfl hw2) | (replace hv := hv.set 2 rfl hw2) | (replace hv := hv.set 3 rfl hw2)); clear hw2; simp only [List.set] at hv)
                | ((with_reducible refine at_load (T := 22) ?_); refine wl_ldc rfl b6 0 rfl _ (hv.vars.row (by first | exact .head _ | exact .tail _ (.head _) | exact .tail _ (.tail _ (.head _)) | exact .tail _ (.tail _ (.tail _ (.head _))) | exact .tail _ (.tail _ (.tail _ (.tail _ (.head _)))) | exact .tail _ (.tail _ (.tail _ (.tail _ (.tail _ (.head _))))) | exact .tail _ (.tail _ (.tail _ (.tail _ (.tail _ (.tail _ (.head _)))))) | exact .tail _ (.tail _ (.tail _ (.tail _ (.tail _ (.tail _ (.tail _ (.head _))))))))) _ Try.underlying22 rfl (.int .u64 (x1 : Nat)) HX0.out ?_)
                | ((with_reducible refine at_load (T := 22) ?_); refine wl_ldc rfl b2 0 rfl _ (hv.vars.row (by first | exact .head _ | exact .tail _ (.head _) | exact .tail _ (.tail _ (.head _)) | exact .tail _ (.tail _ (.tail _ (.head _))) | exact .tail _ (.tail _ (.tail _ (.tail _ (.head _)))) | exact .tail _ (.tail _ (.tail _ (.tail _ (.tail _ (.head _))))) | exact .tail _ (.tail _ (.tail _ (.tail _ (.tail _ (.tail _ (.head _)))))) | exact .tail _ (.tail _ (.tail _ (.tail _ (.tail _ (.tail _ (.tail _ (.head _))))))))) _ Try.underlying22 rfl (.int .u64 (now : Nat)) HNOW.out ?_))
              have HPS := Lib.hid (Any.rd_start hv HSM.out)
              try simp only [Act.put, List.setIfInBounds_toArray, List.set_cons_succ, List.set_cons_zero]
              refine Any.wp_region_walk [⟨[], none⟩, ⟨[], none⟩, ⟨[], none⟩, ⟨[], none⟩, ⟨[], none⟩, ⟨[], none⟩, ⟨[1001], none⟩, ⟨[], none⟩, ⟨[], none⟩, ⟨[], none⟩, ⟨[], none⟩, ⟨[1000], none⟩, ⟨[], none⟩, ⟨[], none⟩, ⟨[], none⟩] [.val, .val, .val, .val, .val, .val, .val, .val, .val, .val, .val, .val, .val, .val, .val] (by kernel_rfl) (by kernel_rfl) hv.vars ?_
              simp only [List.length_cons, List.length_nil, Nat.zero_add, Any.someVals]
              iterate 15 apply Exists.intro
              repeat (first
                | (refine Any.E_off rfl ?_; simp only [Act.put, List.setIfInBounds_toArray, List.set_cons_succ, List.set_cons_zero])
                | (apply Any.E_pureq rfl rfl rfl
                   case h => intro K hK; go_big_quiet_op; (refine hK _ ?_; rfl)
                   case hr => exact fun _ => rfl
                   simp only [Act.put, List.setIfInBounds_toArray, List.set_cons_succ, List.set_cons_zero])
                | (apply Any.E_val rfl rfl rfl rfl
                   case h =>
                     intro E' hA K hK
                     first
                       | ((with_reducible refine Any.at_qload (T := 23) ?_); refine Any.q_ldc 1001 hA (by decide) rfl rfl _ Try.underlying23 rfl (.slice (some ⟨sb, so, none⟩) sn sc) HG.out ?_; refine hK _ ?_; rfl)
                       | ((with_reducible refine Any.at_qload (T := 63) ?_); refine Any.q_rdv HPS.out ((k - 1) * 2) rfl 2 _ Try.underlying63 rfl infoTm (by decide) #[.int .u64 (q1 : Nat), .int .i64 q2] HQ.out rfl ?_; refine hK _ ?_; rfl)
                       | ((with_reducible refine Any.at_qload (T := 63) ?_); refine Any.q_ldv 1000 hA (by decide) rfl rfl 2 _ Try.underlying63 rfl infoTm (by decide) rfl ?_; refine hK _ ?_; rfl)
                       | (go_big_quiet_op; first
                         | (refine hK _ ?_; rfl)
                         | (refine ⟨_, fun _ _ => rfl, ?_⟩; refine hK _ ?_; rfl)
                         | (apply Exists.intro; refine ⟨fun w1 hw1 => ?_, ?_⟩; · (first
                             | (go_at_call 27; exact Any.calls_VE (kA _) hw1))
                            refine hK _ ?_; rfl))
                   case hD => rfl
                   simp only [Act.put, List.setIfInBounds_toArray, List.set_cons_succ, List.set_cons_zero])
                | ((with_reducible refine Any.at_ealloc ?_); refine Any.E_lay rfl rfl rfl (fun _ => rfl) ?_; intro B; simp only [Act.put, List.setIfInBounds_toArray, List.set_cons_succ, List.set_cons_zero]))
              try any_goals exact undef
              refine Any.E_nil ?_
              intro w9 hE9
              replace hv : Mem w w9 [(b6, #[.int .u64 (x1 : Nat), .int .i64 x2]), (b2, (rowW now sv))] _ := hE9.mem hv [1000, 1001] (by decide)
              clear hE9
              go_wp2
              have hkn := HKN.out
              go_roundw
              case rel => exact ⟨k + 1, by omega, by go_num, hv.drop, HO2⟩
              case measure => simp [intOf]; omega

            · have hk1 : k - 1 < l.length := by have := HKL.out; omega
              obtain ⟨⟨q1, q2⟩, hq⟩ : ∃ x, l[k - 1] = x := ⟨_, rfl⟩
              have HQ : Hid (((cellsT l).drop ((k - 1) * 2)).take 2 = [.int .u64 (q1 : Nat), .int .i64 q2]) := Lib.hid (by rw [cellsT_part l (k - 1) hk1, hq])
              have HP0 : Hid (prevO l k = some (q1, q2)) := Lib.hid (by unfold prevO; rw [if_neg hz, List.getElem?_eq_getElem hk1, hq])
              have qk : IntKind.i64.wrap ((k : Int) - 1) = ((k - 1 : Nat) : Int) := by rw [IntWalk.i64_in _ (by omega)]; omega
              have qk2 : ((k : Int) - 1).toNat = k - 1 := by omega
              have qk3 : ((k - 1 : Nat) : Int) < (sn : Int) := by omega
              clear hk1 hq
              obtain ⟨cv, hcv⟩ : ∃ cv, cmpT (q1, q2) (x1, x2) = cv := ⟨_, rfl⟩
              have kA : ∀ w, Calls Try.prog 27 #[.agg #[.int .u64 (q1 : Nat), .int .i64 q2], .agg #[.int .u64 (x1 : Nat), .int .i64 x2]] w fun e w' => e = .returned (.int .i64 cv) ∧ New w w' := fun w => by have := compare_any (q1, q2) (x1, x2) w; rw [hcv] at this; exact this
              cases hb2 : aheadB (q1, q2) (x1, x2) with
              | false =>
                have hge := cmpT_ge hb2
                rw [hcv] at hge
                have yv : decide ((0 : Int) ≤ cv) = true := decide_eq_true hge
                have HB2 := Lib.hid hb2
                clear hb2 hcv hge
                have HO2 : Hid (false = c) := Lib.hid (by
                  have := HO.out
                  rw [slotB_at HX.out] at this
                  unfold tmB at this
                  simp only [] at this
                  rw [HP0.out, decide_eq_true (p := x1 % 8 = i) (by omega), decide_eq_true (p := now < x1) (by omega), decide_eq_true (p := x1 ≤ MaxT) (by unfold MaxT; omega)] at this
                  simpa [HB2.out] using this)
                have ya : ((x1 : Int) % 8 != (i : Int)) = false := by rw [bne_eq_false_iff_eq]; omega
                have yb : decide ((x1 : Int) ≤ (now : Int)) = false := decide_eq_false (by omega); have zb : decide ((x1 : Nat) ≤ (now : Nat)) = false := decide_eq_false (by omega)
                have yc : decide ((1099511627776 : Int) < (x1 : Int)) = false := decide_eq_false (by omega); have zc : decide ((1099511627776 : Nat) < (x1 : Nat)) = false := decide_eq_false (by omega)
                have yk : decide ((0 : Int) < (k : Int)) = true := decide_eq_true (by omega); have zk : decide ((0 : Nat) < (k : Nat)) = true := decide_eq_true (by omega)
                clear HO ha hb hc hz
                go_wp2_with (first
                  | ((with_reducible refine at_load (T := 63) ?_); refine wl_rdv rfl (hv.rd HSM.out) (k * 2) rfl 2 _ Try.underlying63 rfl infoTm (by decide) #[.int .u64 (x1 : Nat), .int .i64 x2] HK.out rfl ?_)
                  | ((with_reducible refine at_alloc (T := 63) (dst := some 6) ?_); refine wl_newb rfl #[.int .u64 0, .int .i64 0] 63 (fun _ => rfl) ?_; intro b6 w2 hm2; replace hv := hv.madeAt hm2; clear hm2)
                  | ((with_reducible refine at_store (T := 63) ?_); refine wl_stv rfl b6 rfl _ rfl _ (hv.vars.row (by first | exact .head _ | exact .tail _ (.head _) | exact .tail _ (.tail _ (.head _)) | exact .tail _ (.tail _ (.tail _ (.head _))) | exact .tail _ (.tail _ (.tail _ (.tail _ (.head _)))) | exact .tail _ (.tail _ (.tail _ (.tail _ (.tail _ (.head _))))) | exact .tail _ (.tail _ (.tail _ (.tail _ (.tail _ (.tail _ (.head _)))))) | exact .tail _ (.tail _ (.tail _ (.tail _ (.tail _ (.tail _ (.tail _ (.head _))))))))) (hv.vars.sft (by first | exact .head _ | exact .tail _ (.head _) | exact .tail _ (.tail _ (.head _)) | exact .tail _ (.tail _ (.tail _ (.head _))) | exact .tail _ (.tail _ (.tail _ (.tail _ (.head _)))) | exact .tail _ (.tail _ (.tail _ (.tail _ (.tail _ (.head _))))) | exact .tail _ (.tail _ (.tail _ (.tail _ (.tail _ (.tail _ (.head _)))))) | exact .tail _ (.tail _ (.tail _ (.tail _ (.tail _ (.tail _ (.tail _ (.head _))))))))) 2 infoTm rfl rfl (by simp [Value.oneCell']) ?_; intro w2 hw2; (first | (replace hv := hv.set 0 rfl hw2) | (replace hv := hv.set 1 rfl hw2) | (replace hv := hv.set 2 rfl hw2) | (replace hv := hv.set 3 rfl hw2)); clear hw2; simp only [List.set] at hv)
                  | ((with_reducible refine at_load (T := 22) ?_); refine wl_ldc rfl b6 0 rfl _ (hv.vars.row (by first | exact .head _ | exact .tail _ (.head _) | exact .tail _ (.tail _ (.head _)) | exact .tail _ (.tail _ (.tail _ (.head _))) | exact .tail _ (.tail _ (.tail _ (.tail _ (.head _)))) | exact .tail _ (.tail _ (.tail _ (.tail _ (.tail _ (.head _))))) | exact .tail _ (.tail _ (.tail _ (.tail _ (.tail _ (.tail _ (.head _)))))) | exact .tail _ (.tail _ (.tail _ (.tail _ (.tail _ (.tail _ (.tail _ (.head _))))))))) _ Try.underlying22 rfl (.int .u64 (x1 : Nat)) HX0.out ?_)
                  | ((with_reducible refine at_load (T := 22) ?_); refine wl_ldc rfl b2 0 rfl _ (hv.vars.row (by first | exact .head _ | exact .tail _ (.head _) | exact .tail _ (.tail _ (.head _)) | exact .tail _ (.tail _ (.tail _ (.head _))) | exact .tail _ (.tail _ (.tail _ (.tail _ (.head _)))) | exact .tail _ (.tail _ (.tail _ (.tail _ (.tail _ (.head _))))) | exact .tail _ (.tail _ (.tail _ (.tail _ (.tail _ (.tail _ (.head _)))))) | exact .tail _ (.tail _ (.tail _ (.tail _ (.tail _ (.tail _ (.tail _ (.head _))))))))) _ Try.underlying22 rfl (.int .u64 (now : Nat)) HNOW.out ?_))
                have HPS := Lib.hid (Any.rd_start hv HSM.out)
                try simp only [Act.put, List.setIfInBounds_toArray, List.set_cons_succ, List.set_cons_zero]
                refine Any.wp_region_walk [⟨[], none⟩, ⟨[], none⟩, ⟨[], none⟩, ⟨[], none⟩, ⟨[], none⟩, ⟨[], none⟩, ⟨[1001], none⟩, ⟨[], none⟩, ⟨[], none⟩, ⟨[], none⟩, ⟨[], none⟩, ⟨[1000], none⟩, ⟨[], none⟩, ⟨[], none⟩, ⟨[], none⟩] [.val, .val, .val, .val, .val, .val, .val, .val, .val, .val, .val, .val, .val, .val, .val] (by kernel_rfl) (by kernel_rfl) hv.vars ?_
                simp only [List.length_cons, List.length_nil, Nat.zero_add, Any.someVals]
                iterate 15 apply Exists.intro
                repeat (first
                  | (refine Any.E_off rfl ?_; simp only [Act.put, List.setIfInBounds_toArray, List.set_cons_succ, List.set_cons_zero])
                  | (apply Any.E_pureq rfl rfl rfl
                     case h => intro K hK; go_big_quiet_op; (refine hK _ ?_; rfl)
                     case hr => exact fun _ => rfl
                     simp only [Act.put, List.setIfInBounds_toArray, List.set_cons_succ, List.set_cons_zero])
                  | (apply Any.E_val rfl rfl rfl rfl
                     case h =>
                       intro E' hA K hK
                       first
                         | ((with_reducible refine Any.at_qload (T := 23) ?_); refine Any.q_ldc 1001 hA (by decide) rfl rfl _ Try.underlying23 rfl (.slice (some ⟨sb, so, none⟩) sn sc) HG.out ?_; refine hK _ ?_; rfl)
                         | ((with_reducible refine Any.at_qload (T := 63) ?_); refine Any.q_rdv HPS.out ((k - 1) * 2) rfl 2 _ Try.underlying63 rfl infoTm (by decide) #[.int .u64 (q1 : Nat), .int .i64 q2] HQ.out rfl ?_; refine hK _ ?_; rfl)
                         | ((with_reducible refine Any.at_qload (T := 63) ?_); refine Any.q_ldv 1000 hA (by decide) rfl rfl 2 _ Try.underlying63 rfl infoTm (by decide) rfl ?_; refine hK _ ?_; rfl)
                         | (go_big_quiet_op; first
                           | (refine hK _ ?_; rfl)
                           | (refine ⟨_, fun _ _ => rfl, ?_⟩; refine hK _ ?_; rfl)
                           | (apply Exists.intro; refine ⟨fun w1 hw1 => ?_, ?_⟩; · (first
                               | (go_at_call 27; exact Any.calls_VE (kA _) hw1))
                              refine hK _ ?_; rfl))
                     case hD => rfl
                     simp only [Act.put, List.setIfInBounds_toArray, List.set_cons_succ, List.set_cons_zero])
                  | ((with_reducible refine Any.at_ealloc ?_); refine Any.E_lay rfl rfl rfl (fun _ => rfl) ?_; intro B; simp only [Act.put, List.setIfInBounds_toArray, List.set_cons_succ, List.set_cons_zero]))
                try any_goals exact undef
                refine Any.E_nil ?_
                intro w9 hE9
                replace hv : Mem w w9 [(b6, #[.int .u64 (x1 : Nat), .int .i64 x2]), (b2, (rowW now sv))] _ := hE9.mem hv [1000, 1001] (by decide)
                clear hE9
                go_wp2
                go_ret
                exact ⟨congrArg (fun b => Ending.returned (.bool b)) HO2.out, hv.below⟩

              | true =>
                have hge := cmpT_neg hb2
                rw [hcv] at hge
                have yv : decide ((0 : Int) ≤ cv) = false := decide_eq_false (by omega)
                have HB2 := Lib.hid hb2
                clear hb2 hcv hge
                have HO2 : Hid (slotB now i (prevO l (k + 1)) (l.drop (k + 1)) = c) := Lib.hid (by
                  have := HO.out
                  rw [slotB_at HX.out] at this
                  unfold tmB at this
                  simp only [] at this
                  rw [HP0.out, decide_eq_true (p := x1 % 8 = i) (by omega), decide_eq_true (p := now < x1) (by omega), decide_eq_true (p := x1 ≤ MaxT) (by unfold MaxT; omega)] at this
                  simpa [HB2.out] using this)
                have ya : ((x1 : Int) % 8 != (i : Int)) = false := by rw [bne_eq_false_iff_eq]; omega
                have yb : decide ((x1 : Int) ≤ (now : Int)) = false := decide_eq_false (by omega); have zb : decide ((x1 : Nat) ≤ (now : Nat)) = false := decide_eq_false (by omega)
                have yc : decide ((1099511627776 : Int) < (x1 : Int)) = false := decide_eq_false (by omega); have zc : decide ((1099511627776 : Nat) < (x1 : Nat)) = false := decide_eq_false (by omega)
                have yk : decide ((0 : Int) < (k : Int)) = true := decide_eq_true (by omega); have zk : decide ((0 : Nat) < (k : Nat)) = true := decide_eq_true (by omega)
                clear HO ha hb hc hz
                go_wp2_with (first
                  | ((with_reducible refine at_load (T := 63) ?_); refine wl_rdv rfl (hv.rd HSM.out) (k * 2) rfl 2 _ Try.underlying63 rfl infoTm (by decide) #[.int .u64 (x1 : Nat), .int .i64 x2] HK.out rfl ?_)
                  | ((with_reducible refine at_alloc (T := 63) (dst := some 6) ?_); refine wl_newb rfl #[.int .u64 0, .int .i64 0] 63 (fun _ => rfl) ?_; intro b6 w2 hm2; replace hv := hv.madeAt hm2; clear hm2)
                  | ((with_reducible refine at_store (T := 63) ?_); refine wl_stv rfl b6 rfl _ rfl _ (hv.vars.row (by first | exact .head _ | exact .tail _ (.head _) | exact .tail _ (.tail _ (.head _)) | exact .tail _ (.tail _ (.tail _ (.head _))) | exact .tail _ (.tail _ (.tail _ (.tail _ (.head _)))) | exact .tail _ (.tail _ (.tail _ (.tail _ (.tail _ (.head _))))) | exact .tail _ (.tail _ (.tail _ (.tail _ (.tail _ (.tail _ (.head _)))))) | exact .tail _ (.tail _ (.tail _ (.tail _ (.tail _ (.tail _ (.tail _ (.head _))))))))) (hv.vars.sft (by first | exact .head _ | exact .tail _ (.head _) | exact .tail _ (.tail _ (.head _)) | exact .tail _ (.tail _ (.tail _ (.head _))) | exact .tail _ (.tail _ (.tail _ (.tail _ (.head _)))) | exact .tail _ (.tail _ (.tail _ (.tail _ (.tail _ (.head _))))) | exact .tail _ (.tail _ (.tail _ (.tail _ (.tail _ (.tail _ (.head _)))))) | exact .tail _ (.tail _ (.tail _ (.tail _ (.tail _ (.tail _ (.tail _ (.head _))))))))) 2 infoTm rfl rfl (by simp [Value.oneCell']) ?_; intro w2 hw2; (first | (replace hv := hv.set 0 rfl hw2) | (replace hv := hv.set 1 rfl hw2) | (replace hv := hv.set 2 rfl hw2) | (replace hv := hv.set 3 rfl hw2)); clear hw2; simp only [List.set] at hv)
                  | ((with_reducible refine at_load (T := 22) ?_); refine wl_ldc rfl b6 0 rfl _ (hv.vars.row (by first | exact .head _ | exact .tail _ (.head _) | exact .tail _ (.tail _ (.head _)) | exact .tail _ (.tail _ (.tail _ (.head _))) | exact .tail _ (.tail _ (.tail _ (.tail _ (.head _)))) | exact .tail _ (.tail _ (.tail _ (.tail _ (.tail _ (.head _))))) | exact .tail _ (.tail _ (.tail _ (.tail _ (.tail _ (.tail _ (.head _)))))) | exact .tail _ (.tail _ (.tail _ (.tail _ (.tail _ (.tail _ (.tail _ (.head _))))))))) _ Try.underlying22 rfl (.int .u64 (x1 : Nat)) HX0.out ?_)
                  | ((with_reducible refine at_load (T := 22) ?_); refine wl_ldc rfl b2 0 rfl _ (hv.vars.row (by first | exact .head _ | exact .tail _ (.head _) | exact .tail _ (.tail _ (.head _)) | exact .tail _ (.tail _ (.tail _ (.head _))) | exact .tail _ (.tail _ (.tail _ (.tail _ (.head _)))) | exact .tail _ (.tail _ (.tail _ (.tail _ (.tail _ (.head _))))) | exact .tail _ (.tail _ (.tail _ (.tail _ (.tail _ (.tail _ (.head _)))))) | exact .tail _ (.tail _ (.tail _ (.tail _ (.tail _ (.tail _ (.tail _ (.head _))))))))) _ Try.underlying22 rfl (.int .u64 (now : Nat)) HNOW.out ?_))
                have HPS := Lib.hid (Any.rd_start hv HSM.out)
                try simp only [Act.put, List.setIfInBounds_toArray, List.set_cons_succ, List.set_cons_zero]
                refine Any.wp_region_walk [⟨[], none⟩, ⟨[], none⟩, ⟨[], none⟩, ⟨[], none⟩, ⟨[], none⟩, ⟨[], none⟩, ⟨[1001], none⟩, ⟨[], none⟩, ⟨[], none⟩, ⟨[], none⟩, ⟨[], none⟩, ⟨[1000], none⟩, ⟨[], none⟩, ⟨[], none⟩, ⟨[], none⟩] [.val, .val, .val, .val, .val, .val, .val, .val, .val, .val, .val, .val, .val, .val, .val] (by kernel_rfl) (by kernel_rfl) hv.vars ?_
                simp only [List.length_cons, List.length_nil, Nat.zero_add, Any.someVals]
                iterate 15 apply Exists.intro
                repeat (first
                  | (refine Any.E_off rfl ?_; simp only [Act.put, List.setIfInBounds_toArray, List.set_cons_succ, List.set_cons_zero])
                  | (apply Any.E_pureq rfl rfl rfl
                     case h => intro K hK; go_big_quiet_op; (refine hK _ ?_; rfl)
                     case hr => exact fun _ => rfl
                     simp only [Act.put, List.setIfInBounds_toArray, List.set_cons_succ, List.set_cons_zero])
                  | (apply Any.E_val rfl rfl rfl rfl
                     case h =>
                       intro E' hA K hK
                       first
                         | ((with_reducible refine Any.at_qload (T := 23) ?_); refine Any.q_ldc 1001 hA (by decide) rfl rfl _ Try.underlying23 rfl (.slice (some ⟨sb, so, none⟩) sn sc) HG.out ?_; refine hK _ ?_; rfl)
                         | ((with_reducible refine Any.at_qload (T := 63) ?_); refine Any.q_rdv HPS.out ((k - 1) * 2) rfl 2 _ Try.underlying63 rfl infoTm (by decide) #[.int .u64 (q1 : Nat), .int .i64 q2] HQ.out rfl ?_; refine hK _ ?_; rfl)
                         | ((with_reducible refine Any.at_qload (T := 63) ?_); refine Any.q_ldv 1000 hA (by decide) rfl rfl 2 _ Try.underlying63 rfl infoTm (by decide) rfl ?_; refine hK _ ?_; rfl)
                         | (go_big_quiet_op; first
                           | (refine hK _ ?_; rfl)
                           | (refine ⟨_, fun _ _ => rfl, ?_⟩; refine hK _ ?_; rfl)
                           | (apply Exists.intro; refine ⟨fun w1 hw1 => ?_, ?_⟩; · (first
                               | (go_at_call 27; exact Any.calls_VE (kA _) hw1))
                              refine hK _ ?_; rfl))
                     case hD => rfl
                     simp only [Act.put, List.setIfInBounds_toArray, List.set_cons_succ, List.set_cons_zero])
                  | ((with_reducible refine Any.at_ealloc ?_); refine Any.E_lay rfl rfl rfl (fun _ => rfl) ?_; intro B; simp only [Act.put, List.setIfInBounds_toArray, List.set_cons_succ, List.set_cons_zero]))
                try any_goals exact undef
                refine Any.E_nil ?_
                intro w9 hE9
                replace hv : Mem w w9 [(b6, #[.int .u64 (x1 : Nat), .int .i64 x2]), (b2, (rowW now sv))] _ := hE9.mem hv [1000, 1001] (by decide)
                clear hE9
                go_wp2
                have hkn := HKN.out
                go_roundw
                case rel => exact ⟨k + 1, by omega, by go_num, hv.drop, HO2⟩
                case measure => simp [intOf]; omega

          · skip
            have HO2 : Hid (false = c) := Lib.hid (by
              have := HO.out
              rw [slotB_at HX.out] at this
              unfold tmB at this
              simp only [] at this
              rw [decide_eq_false (p := x1 ≤ MaxT) (by unfold MaxT; omega)] at this
              simpa using this)
            have ya : ((x1 : Int) % 8 != (i : Int)) = false := by rw [bne_eq_false_iff_eq]; omega
            have yb : decide ((x1 : Int) ≤ (now : Int)) = false := decide_eq_false (by omega); have zb : decide ((x1 : Nat) ≤ (now : Nat)) = false := decide_eq_false (by omega)
            have yc : decide ((1099511627776 : Int) < (x1 : Int)) = true := decide_eq_true (by omega); have zc : decide ((1099511627776 : Nat) < (x1 : Nat)) = true := decide_eq_true (by omega)
            clear HO ha hb hc
            go_wp2_with (first
              | ((with_reducible refine at_load (T := 63) ?_); refine wl_rdv rfl (hv.rd HSM.out) (k * 2) rfl 2 _ Try.underlying63 rfl infoTm (by decide) #[.int .u64 (x1 : Nat), .int .i64 x2] HK.out rfl ?_)
              | ((with_reducible refine at_alloc (T := 63) (dst := some 6) ?_); refine wl_newb rfl #[.int .u64 0, .int .i64 0] 63 (fun _ => rfl) ?_; intro b6 w2 hm2; replace hv := hv.madeAt hm2; clear hm2)
              | ((with_reducible refine at_store (T := 63) ?_); refine wl_stv rfl b6 rfl _ rfl _ (hv.vars.row (by first | exact .head _ | exact .tail _ (.head _) | exact .tail _ (.tail _ (.head _)) | exact .tail _ (.tail _ (.tail _ (.head _))) | exact .tail _ (.tail _ (.tail _ (.tail _ (.head _)))) | exact .tail _ (.tail _ (.tail _ (.tail _ (.tail _ (.head _))))) | exact .tail _ (.tail _ (.tail _ (.tail _ (.tail _ (.tail _ (.head _)))))) | exact .tail _ (.tail _ (.tail _ (.tail _ (.tail _ (.tail _ (.tail _ (.head _))))))))) (hv.vars.sft (by first | exact .head _ | exact .tail _ (.head _) | exact .tail _ (.tail _ (.head _)) | exact .tail _ (.tail _ (.tail _ (.head _))) | exact .tail _ (.tail _ (.tail _ (.tail _ (.head _)))) | exact .tail _ (.tail _ (.tail _ (.tail _ (.tail _ (.head _))))) | exact .tail _ (.tail _ (.tail _ (.tail _ (.tail _ (.tail _ (.head _)))))) | exact .tail _ (.tail _ (.tail _ (.tail _ (.tail _ (.tail _ (.tail _ (.head _))))))))) 2 infoTm rfl rfl (by simp [Value.oneCell']) ?_; intro w2 hw2; (first | (replace hv := hv.set 0 rfl hw2) | (replace hv := hv.set 1 rfl hw2) | (replace hv := hv.set 2 rfl hw2) | (replace hv := hv.set 3 rfl hw2)); clear hw2; simp only [List.set] at hv)
              | ((with_reducible refine at_load (T := 22) ?_); refine wl_ldc rfl b6 0 rfl _ (hv.vars.row (by first | exact .head _ | exact .tail _ (.head _) | exact .tail _ (.tail _ (.head _)) | exact .tail _ (.tail _ (.tail _ (.head _))) | exact .tail _ (.tail _ (.tail _ (.tail _ (.head _)))) | exact .tail _ (.tail _ (.tail _ (.tail _ (.tail _ (.head _))))) | exact .tail _ (.tail _ (.tail _ (.tail _ (.tail _ (.tail _ (.head _)))))) | exact .tail _ (.tail _ (.tail _ (.tail _ (.tail _ (.tail _ (.tail _ (.head _))))))))) _ Try.underlying22 rfl (.int .u64 (x1 : Nat)) HX0.out ?_)
              | ((with_reducible refine at_load (T := 22) ?_); refine wl_ldc rfl b2 0 rfl _ (hv.vars.row (by first | exact .head _ | exact .tail _ (.head _) | exact .tail _ (.tail _ (.head _)) | exact .tail _ (.tail _ (.tail _ (.head _))) | exact .tail _ (.tail _ (.tail _ (.tail _ (.head _)))) | exact .tail _ (.tail _ (.tail _ (.tail _ (.tail _ (.head _))))) | exact .tail _ (.tail _ (.tail _ (.tail _ (.tail _ (.tail _ (.head _)))))) | exact .tail _ (.tail _ (.tail _ (.tail _ (.tail _ (.tail _ (.tail _ (.head _))))))))) _ Try.underlying22 rfl (.int .u64 (now : Nat)) HNOW.out ?_))
            go_ret
            exact ⟨congrArg (fun b => Ending.returned (.bool b)) HO2.out, hv.below⟩

        · skip
          have HO2 : Hid (false = c) := Lib.hid (by
            have := HO.out
            rw [slotB_at HX.out] at this
            unfold tmB at this
            simp only [] at this
            rw [decide_eq_false (p := now < x1) (by omega)] at this
            simpa using this)
          have ya : ((x1 : Int) % 8 != (i : Int)) = false := by rw [bne_eq_false_iff_eq]; omega
          have yb : decide ((x1 : Int) ≤ (now : Int)) = true := decide_eq_true (by omega); have zb : decide ((x1 : Nat) ≤ (now : Nat)) = true := decide_eq_true (by omega)
          clear HO ha hb
          go_wp2_with (first
            | ((with_reducible refine at_load (T := 63) ?_); refine wl_rdv rfl (hv.rd HSM.out) (k * 2) rfl 2 _ Try.underlying63 rfl infoTm (by decide) #[.int .u64 (x1 : Nat), .int .i64 x2] HK.out rfl ?_)
            | ((with_reducible refine at_alloc (T := 63) (dst := some 6) ?_); refine wl_newb rfl #[.int .u64 0, .int .i64 0] 63 (fun _ => rfl) ?_; intro b6 w2 hm2; replace hv := hv.madeAt hm2; clear hm2)
            | ((with_reducible refine at_store (T := 63) ?_); refine wl_stv rfl b6 rfl _ rfl _ (hv.vars.row (by first | exact .head _ | exact .tail _ (.head _) | exact .tail _ (.tail _ (.head _)) | exact .tail _ (.tail _ (.tail _ (.head _))) | exact .tail _ (.tail _ (.tail _ (.tail _ (.head _)))) | exact .tail _ (.tail _ (.tail _ (.tail _ (.tail _ (.head _))))) | exact .tail _ (.tail _ (.tail _ (.tail _ (.tail _ (.tail _ (.head _)))))) | exact .tail _ (.tail _ (.tail _ (.tail _ (.tail _ (.tail _ (.tail _ (.head _))))))))) (hv.vars.sft (by first | exact .head _ | exact .tail _ (.head _) | exact .tail _ (.tail _ (.head _)) | exact .tail _ (.tail _ (.tail _ (.head _))) | exact .tail _ (.tail _ (.tail _ (.tail _ (.head _)))) | exact .tail _ (.tail _ (.tail _ (.tail _ (.tail _ (.head _))))) | exact .tail _ (.tail _ (.tail _ (.tail _ (.tail _ (.tail _ (.head _)))))) | exact .tail _ (.tail _ (.tail _ (.tail _ (.tail _ (.tail _ (.tail _ (.head _))))))))) 2 infoTm rfl rfl (by simp [Value.oneCell']) ?_; intro w2 hw2; (first | (replace hv := hv.set 0 rfl hw2) | (replace hv := hv.set 1 rfl hw2) | (replace hv := hv.set 2 rfl hw2) | (replace hv := hv.set 3 rfl hw2)); clear hw2; simp only [List.set] at hv)
            | ((with_reducible refine at_load (T := 22) ?_); refine wl_ldc rfl b6 0 rfl _ (hv.vars.row (by first | exact .head _ | exact .tail _ (.head _) | exact .tail _ (.tail _ (.head _)) | exact .tail _ (.tail _ (.tail _ (.head _))) | exact .tail _ (.tail _ (.tail _ (.tail _ (.head _)))) | exact .tail _ (.tail _ (.tail _ (.tail _ (.tail _ (.head _))))) | exact .tail _ (.tail _ (.tail _ (.tail _ (.tail _ (.tail _ (.head _)))))) | exact .tail _ (.tail _ (.tail _ (.tail _ (.tail _ (.tail _ (.tail _ (.head _))))))))) _ Try.underlying22 rfl (.int .u64 (x1 : Nat)) HX0.out ?_)
            | ((with_reducible refine at_load (T := 22) ?_); refine wl_ldc rfl b2 0 rfl _ (hv.vars.row (by first | exact .head _ | exact .tail _ (.head _) | exact .tail _ (.tail _ (.head _)) | exact .tail _ (.tail _ (.tail _ (.head _))) | exact .tail _ (.tail _ (.tail _ (.tail _ (.head _)))) | exact .tail _ (.tail _ (.tail _ (.tail _ (.tail _ (.head _))))) | exact .tail _ (.tail _ (.tail _ (.tail _ (.tail _ (.tail _ (.head _)))))) | exact .tail _ (.tail _ (.tail _ (.tail _ (.tail _ (.tail _ (.tail _ (.head _))))))))) _ Try.underlying22 rfl (.int .u64 (now : Nat)) HNOW.out ?_))
          go_ret
          exact ⟨congrArg (fun b => Ending.returned (.bool b)) HO2.out, hv.below⟩

      · skip
        have HO2 : Hid (false = c) := Lib.hid (by
          have := HO.out
          rw [slotB_at HX.out] at this
          unfold tmB at this
          simp only [] at this
          rw [decide_eq_false (p := x1 % 8 = i) (by omega)] at this
          simpa using this)
        have ya : ((x1 : Int) % 8 != (i : Int)) = true := by rw [bne_iff_ne]; omega
        clear HO ha
        go_wp2_with (first
          | ((with_reducible refine at_load (T := 63) ?_); refine wl_rdv rfl (hv.rd HSM.out) (k * 2) rfl 2 _ Try.underlying63 rfl infoTm (by decide) #[.int .u64 (x1 : Nat), .int .i64 x2] HK.out rfl ?_)
          | ((with_reducible refine at_alloc (T := 63) (dst := some 6) ?_); refine wl_newb rfl #[.int .u64 0, .int .i64 0] 63 (fun _ => rfl) ?_; intro b6 w2 hm2; replace hv := hv.madeAt hm2; clear hm2)
          | ((with_reducible refine at_store (T := 63) ?_); refine wl_stv rfl b6 rfl _ rfl _ (hv.vars.row (by first | exact .head _ | exact .tail _ (.head _) | exact .tail _ (.tail _ (.head _)) | exact .tail _ (.tail _ (.tail _ (.head _))) | exact .tail _ (.tail _ (.tail _ (.tail _ (.head _)))) | exact .tail _ (.tail _ (.tail _ (.tail _ (.tail _ (.head _))))) | exact .tail _ (.tail _ (.tail _ (.tail _ (.tail _ (.tail _ (.head _)))))) | exact .tail _ (.tail _ (.tail _ (.tail _ (.tail _ (.tail _ (.tail _ (.head _))))))))) (hv.vars.sft (by first | exact .head _ | exact .tail _ (.head _) | exact .tail _ (.tail _ (.head _)) | exact .tail _ (.tail _ (.tail _ (.head _))) | exact .tail _ (.tail _ (.tail _ (.tail _ (.head _)))) | exact .tail _ (.tail _ (.tail _ (.tail _ (.tail _ (.head _))))) | exact .tail _ (.tail _ (.tail _ (.tail _ (.tail _ (.tail _ (.head _)))))) | exact .tail _ (.tail _ (.tail _ (.tail _ (.tail _ (.tail _ (.tail _ (.head _))))))))) 2 infoTm rfl rfl (by simp [Value.oneCell']) ?_; intro w2 hw2; (first | (replace hv := hv.set 0 rfl hw2) | (replace hv := hv.set 1 rfl hw2) | (replace hv := hv.set 2 rfl hw2) | (replace hv := hv.set 3 rfl hw2)); clear hw2; simp only [List.set] at hv)
          | ((with_reducible refine at_load (T := 22) ?_); refine wl_ldc rfl b6 0 rfl _ (hv.vars.row (by first | exact .head _ | exact .tail _ (.head _) | exact .tail _ (.tail _ (.head _)) | exact .tail _ (.tail _ (.tail _ (.head _))) | exact .tail _ (.tail _ (.tail _ (.tail _ (.head _)))) | exact .tail _ (.tail _ (.tail _ (.tail _ (.tail _ (.head _))))) | exact .tail _ (.tail _ (.tail _ (.tail _ (.tail _ (.tail _ (.head _)))))) | exact .tail _ (.tail _ (.tail _ (.tail _ (.tail _ (.tail _ (.tail _ (.head _))))))))) _ Try.underlying22 rfl (.int .u64 (x1 : Nat)) HX0.out ?_)
          | ((with_reducible refine at_load (T := 22) ?_); refine wl_ldc rfl b2 0 rfl _ (hv.vars.row (by first | exact .head _ | exact .tail _ (.head _) | exact .tail _ (.tail _ (.head _)) | exact .tail _ (.tail _ (.tail _ (.head _))) | exact .tail _ (.tail _ (.tail _ (.tail _ (.head _)))) | exact .tail _ (.tail _ (.tail _ (.tail _ (.tail _ (.head _))))) | exact .tail _ (.tail _ (.tail _ (.tail _ (.tail _ (.tail _ (.head _)))))) | exact .tail _ (.tail _ (.tail _ (.tail _ (.tail _ (.tail _ (.tail _ (.head _))))))))) _ Try.underlying22 rfl (.int .u64 (now : Nat)) HNOW.out ?_))
        go_ret
        exact ⟨congrArg (fun b => Ending.returned (.bool b)) HO2.out, hv.below⟩

    · have c1 : ¬ (k : Int) < (sn : Int) := by omega
      have HO2 : Hid (true = c) := Lib.hid (by
        have := HO.out
        rw [slotB_end (by rw [HLN.out]; omega)] at this
        exact this)
      clear HO hk hk0
      go_wp2
      go_ret
      exact ⟨congrArg (fun b => Ending.returned (.bool b)) HO2.out, hv.below⟩
end Go.Proofs.Ytfblognifnnadaa
