/-
  The reference's ahead; numbers held against numbers.
-/
import Derived.Test.YtfblognifnnadaaWhCmp
set_option linter.unusedVariables false
set_option linter.unusedSimpArgs false
namespace Go.Proofs.Wh
def aheadB (a b : Tm) : Bool := if a.1 < b.1 then true else if b.1 < a.1 then false else decide (a.2 < b.2)
theorem aheadB_iff {a b : Tm} : aheadB a b = true ↔ tlt a b := by
  unfold aheadB tlt
  split
  · constructor
    · intro _; omega
    · intro _; rfl
  · split
    · constructor
      · intro g; cases g
      · intro g; omega
    · rw [decide_eq_true_eq]
      omega
end Go.Proofs.Wh
namespace Go.Proofs.Ytfblognifnnadaa
open Go.Proofs.Wh Go.RowKit
set_option maxRecDepth 100000 in
set_option maxHeartbeats 4000000 in
theorem ahead_any (a b : Tm) (w : World) : Calls Try.prog 22 #[.agg #[.int .u64 (a.1 : Nat), .int .i64 a.2], .agg #[.int .u64 (b.1 : Nat), .int .i64 b.2]] w fun e w' => e = .returned (.bool (aheadB a b)) ∧ New w w' := by
  have hv := Mem.nil w
  obtain ⟨p1, p2⟩ := a
  obtain ⟨q1, q2⟩ := b
  by_cases h1 : p1 < q1
  · have e : aheadB (p1, p2) (q1, q2) = true := by unfold aheadB; exact if_pos h1
    have y1 : ((p1 : Int) != (q1 : Int)) = true := by rw [bne_iff_ne]; omega
    have y2 : decide ((p1 : Int) < (q1 : Int)) = true := decide_eq_true (by omega)
    rw [e]
    clear e
    go_enter Try.func22, Try.ntmps22
    go_wp2_with (first
      | ((with_reducible refine at_box (T := 63) (dst := some 2) ?_); refine wl_newb rfl #[.int .u64 (p1 : Nat), .int .i64 p2] 63 (fun _ => rfl) ?_; intro b2 w2 hm2; replace hv := hv.madeAt hm2; clear hm2)
      | ((with_reducible refine at_box (T := 63) (dst := some 3) ?_); refine wl_newb rfl #[.int .u64 (q1 : Nat), .int .i64 q2] 63 (fun _ => rfl) ?_; intro b3 w2 hm2; replace hv := hv.madeAt hm2; clear hm2)
      | ((with_reducible refine at_load (T := 22) ?_); refine wl_ldc rfl _ _ rfl _ (hv.vars.row (by first | exact .head _ | exact .tail _ (.head _) | exact .tail _ (.tail _ (.head _)) | exact .tail _ (.tail _ (.tail _ (.head _))) | exact .tail _ (.tail _ (.tail _ (.tail _ (.head _)))) | exact .tail _ (.tail _ (.tail _ (.tail _ (.tail _ (.head _))))) | exact .tail _ (.tail _ (.tail _ (.tail _ (.tail _ (.tail _ (.head _)))))) | exact .tail _ (.tail _ (.tail _ (.tail _ (.tail _ (.tail _ (.tail _ (.head _))))))))) _ Try.underlying22 rfl _ rfl ?_)
      | ((with_reducible refine at_load (T := 3) ?_); refine wl_ldc rfl _ _ rfl _ (hv.vars.row (by first | exact .head _ | exact .tail _ (.head _) | exact .tail _ (.tail _ (.head _)) | exact .tail _ (.tail _ (.tail _ (.head _))) | exact .tail _ (.tail _ (.tail _ (.tail _ (.head _)))) | exact .tail _ (.tail _ (.tail _ (.tail _ (.tail _ (.head _))))) | exact .tail _ (.tail _ (.tail _ (.tail _ (.tail _ (.tail _ (.head _)))))) | exact .tail _ (.tail _ (.tail _ (.tail _ (.tail _ (.tail _ (.tail _ (.head _))))))))) _ Try.underlying3 rfl _ rfl ?_))
    go_ret
    exact ⟨rfl, hv.below⟩
  · by_cases h2 : q1 < p1
    · have e : aheadB (p1, p2) (q1, q2) = false := by unfold aheadB; simp only [h1, h2, if_true, if_false]
      have y1 : ((p1 : Int) != (q1 : Int)) = true := by rw [bne_iff_ne]; omega
      have y2 : decide ((p1 : Int) < (q1 : Int)) = false := decide_eq_false (by omega)
      rw [e]
      clear e
      go_enter Try.func22, Try.ntmps22
      go_wp2_with (first
        | ((with_reducible refine at_box (T := 63) (dst := some 2) ?_); refine wl_newb rfl #[.int .u64 (p1 : Nat), .int .i64 p2] 63 (fun _ => rfl) ?_; intro b2 w2 hm2; replace hv := hv.madeAt hm2; clear hm2)
        | ((with_reducible refine at_box (T := 63) (dst := some 3) ?_); refine wl_newb rfl #[.int .u64 (q1 : Nat), .int .i64 q2] 63 (fun _ => rfl) ?_; intro b3 w2 hm2; replace hv := hv.madeAt hm2; clear hm2)
        | ((with_reducible refine at_load (T := 22) ?_); refine wl_ldc rfl _ _ rfl _ (hv.vars.row (by first | exact .head _ | exact .tail _ (.head _) | exact .tail _ (.tail _ (.head _)) | exact .tail _ (.tail _ (.tail _ (.head _))) | exact .tail _ (.tail _ (.tail _ (.tail _ (.head _)))) | exact .tail _ (.tail _ (.tail _ (.tail _ (.tail _ (.head _))))) | exact .tail _ (.tail _ (.tail _ (.tail _ (.tail _ (.tail _ (.head _)))))) | exact .tail _ (.tail _ (.tail _ (.tail _ (.tail _ (.tail _ (.tail _ (.head _))))))))) _ Try.underlying22 rfl _ rfl ?_)
        | ((with_reducible refine at_load (T := 3) ?_); refine wl_ldc rfl _ _ rfl _ (hv.vars.row (by first | exact .head _ | exact .tail _ (.head _) | exact .tail _ (.tail _ (.head _)) | exact .tail _ (.tail _ (.tail _ (.head _))) | exact .tail _ (.tail _ (.tail _ (.tail _ (.head _)))) | exact .tail _ (.tail _ (.tail _ (.tail _ (.tail _ (.head _))))) | exact .tail _ (.tail _ (.tail _ (.tail _ (.tail _ (.tail _ (.head _)))))) | exact .tail _ (.tail _ (.tail _ (.tail _ (.tail _ (.tail _ (.tail _ (.head _))))))))) _ Try.underlying3 rfl _ rfl ?_))
      go_ret
      exact ⟨rfl, hv.below⟩
    · obtain rfl : p1 = q1 := by omega
      have e : aheadB (p1, p2) (p1, q2) = decide (p2 < q2) := by unfold aheadB; simp only [h1, if_false]
      have y1 : ((p1 : Int) != (p1 : Int)) = false := by simp
      rw [e]
      clear e h1 h2
      go_enter Try.func22, Try.ntmps22
      go_wp2_with (first
        | ((with_reducible refine at_box (T := 63) (dst := some 2) ?_); refine wl_newb rfl #[.int .u64 (p1 : Nat), .int .i64 p2] 63 (fun _ => rfl) ?_; intro b2 w2 hm2; replace hv := hv.madeAt hm2; clear hm2)
        | ((with_reducible refine at_box (T := 63) (dst := some 3) ?_); refine wl_newb rfl #[.int .u64 (p1 : Nat), .int .i64 q2] 63 (fun _ => rfl) ?_; intro b3 w2 hm2; replace hv := hv.madeAt hm2; clear hm2)
        | ((with_reducible refine at_load (T := 22) ?_); refine wl_ldc rfl _ _ rfl _ (hv.vars.row (by first | exact .head _ | exact .tail _ (.head _) | exact .tail _ (.tail _ (.head _)) | exact .tail _ (.tail _ (.tail _ (.head _))) | exact .tail _ (.tail _ (.tail _ (.tail _ (.head _)))) | exact .tail _ (.tail _ (.tail _ (.tail _ (.tail _ (.head _))))) | exact .tail _ (.tail _ (.tail _ (.tail _ (.tail _ (.tail _ (.head _)))))) | exact .tail _ (.tail _ (.tail _ (.tail _ (.tail _ (.tail _ (.tail _ (.head _))))))))) _ Try.underlying22 rfl _ rfl ?_)
        | ((with_reducible refine at_load (T := 3) ?_); refine wl_ldc rfl _ _ rfl _ (hv.vars.row (by first | exact .head _ | exact .tail _ (.head _) | exact .tail _ (.tail _ (.head _)) | exact .tail _ (.tail _ (.tail _ (.head _))) | exact .tail _ (.tail _ (.tail _ (.tail _ (.head _)))) | exact .tail _ (.tail _ (.tail _ (.tail _ (.tail _ (.head _))))) | exact .tail _ (.tail _ (.tail _ (.tail _ (.tail _ (.tail _ (.head _)))))) | exact .tail _ (.tail _ (.tail _ (.tail _ (.tail _ (.tail _ (.tail _ (.head _))))))))) _ Try.underlying3 rfl _ rfl ?_))
      go_ret
      exact ⟨rfl, hv.below⟩
set_option maxRecDepth 100000 in
set_option maxHeartbeats 4000000 in
theorem Ints_alike (u v : Value) (l : List Int) (hl : l.length ≤ 100000) (w : World) (hu : Rd w 1 u (l.map (Value.int .i64))) (hv0 : Rd w 1 v (l.map (Value.int .i64))) : Calls Try.prog 11 #[u, v] w fun e w' => e = .returned (.bool true) ∧ New w w' := by
  have hv := ((Mem.nil w).old hv0).old hu
  obtain ⟨ua, n, uc, rfl, g1, _⟩ := id hu
  obtain ⟨va, m, vc, rfl, g2, _⟩ := id hv0
  rw [List.length_map] at g1 g2
  obtain rfl : n = m := by omega
  have HL : Hid (l.length = n) := Lib.hid (by omega)
  have HN : Hid (n ≤ 100000) := Lib.hid (by omega)
  have y1 : ((n : Int) != (n : Int)) = false := by simp
  clear hu hv0 g1 g2 hl
  go_enter Try.func11, Try.ntmps11
  go_wp2
  go_loopw [5] (fun kv wr => ∃ k : Nat, k ≤ n ∧ kv = .int .i64 (k : Nat) ∧ Mem w wr [] [(1, .slice ua n uc, l.map (Value.int .i64)), (1, .slice va n vc, l.map (Value.int .i64))]) (fun kv _ => n - (intOf kv).toNat)
  case atStart => exact ⟨0, Nat.zero_le _, rfl, hv⟩
  case round =>
    clear hv
    obtain ⟨k, hk0, rfl, hv⟩ := hrel
    by_cases hk : k < n
    · have hki : (k : Int) < (n : Int) := by omega
      have hkb : (k : Int) ≤ 100000 := by have := HN.out; omega
      have hkl : k < l.length := by rw [HL.out]; exact hk
      obtain ⟨z, hz⟩ : ∃ z, l[k] = z := ⟨_, rfl⟩
      have HZA : Hid ((l.map (Value.int .i64))[k]? = some (.int .i64 z)) := Lib.hid (by rw [List.getElem?_map, List.getElem?_eq_getElem hkl, hz]; rfl)
      have HZB := HZA
      obtain ⟨b, o, _, _, e, _⟩ := (hv.rd Mem.z).some (by rw [List.length_map]; omega)
      cases e
      obtain ⟨b2, o2, _, _, e, _⟩ := (hv.rd (Mem.s Mem.z)).some (by rw [List.length_map]; omega)
      cases e
      have HPA := Lib.hid (Any.rd_start hv Mem.z)
      have HPB := Lib.hid (Any.rd_start hv (Mem.s Mem.z))
      have HK := Lib.hid hk
      have y2 : (z != z) = false := by simp
      clear hz hkl hk hk0
      go_wp2
      refine Any.wp_region_walk [⟨[], none⟩, ⟨[], none⟩, ⟨[], none⟩, ⟨[], none⟩, ⟨[], none⟩, ⟨[], none⟩, ⟨[], none⟩, ⟨[], none⟩, ⟨[], none⟩] [.val, .val, .val, .val, .val, .val, .val, .val, .val] (by kernel_rfl) (by kernel_rfl) hv.vars ?_
      simp only [List.length_cons, List.length_nil, Nat.zero_add, Any.someVals]
      iterate 9 apply Exists.intro
      repeat (first
        | (refine Any.E_off rfl ?_; simp only [Act.put, List.setIfInBounds_toArray, List.set_cons_succ, List.set_cons_zero])
        | (apply Any.E_pureq rfl rfl rfl
           case h => intro K hK; go_big_quiet_op; (refine hK _ ?_; rfl)
           case hr => exact fun _ => rfl
           simp only [Act.put, List.setIfInBounds_toArray, List.set_cons_succ, List.set_cons_zero])
        | (apply Any.E_val rfl rfl rfl rfl
           case h =>
             intro E' hA K hK
             first
               | ((with_reducible refine Any.at_qload (T := 3) ?_); refine Any.q_rd HPA.out k rfl _ Try.underlying3 rfl (.int .i64 z) HZA.out ?_; refine hK _ ?_; rfl)
               | ((with_reducible refine Any.at_qload (T := 3) ?_); refine Any.q_rd HPB.out k rfl _ Try.underlying3 rfl (.int .i64 z) HZB.out ?_; refine hK _ ?_; rfl)
               | (go_big_quiet_op; first
                 | (refine hK _ ?_; rfl)
                 | (refine ⟨_, fun _ _ => rfl, ?_⟩; refine hK _ ?_; rfl)
                 | (apply Exists.intro; refine ⟨fun w1 hw1 => ?_, ?_⟩; · (first
                     | fail)
                    refine hK _ ?_; rfl))
           case hD => rfl
           simp only [Act.put, List.setIfInBounds_toArray, List.set_cons_succ, List.set_cons_zero])
        | ((with_reducible refine Any.at_ealloc ?_); refine Any.E_lay rfl rfl rfl (fun _ => rfl) ?_; intro B; simp only [Act.put, List.setIfInBounds_toArray, List.set_cons_succ, List.set_cons_zero]))
      try any_goals exact undef
      refine Any.E_nil ?_
      intro w9 hE9
      replace hv : Mem w w9 [] _ := hE9.mem hv [] (by decide)
      clear hE9
      go_wp2
      have hkn := HK.out
      go_roundw
      case rel => exact ⟨k + 1, by omega, by go_num, hv⟩
      case measure => simp [intOf]; omega
    · have hki : ¬ (k : Int) < (n : Int) := by omega
      go_wp2
      go_ret
      exact ⟨rfl, hv.below⟩
end Go.Proofs.Ytfblognifnnadaa
