/-
  Two timers held against each other: compare.
-/
import Derived.Test.YtfblognifnnadaaAnyB
import Derived.Test.YtfblognifnnadaaWhPlain
import Derived.Test.YtfblognifnnadaaProg
import Derived.WalkMore
set_option linter.unusedVariables false
set_option linter.unusedSimpArgs false
namespace Go.Proofs.Wh
def cmpI (x y : Int) : Int := if x < y then -1 else if y < x then 1 else 0
def cmpT (a b : Tm) : Int := if cmpI a.1 b.1 ≠ 0 then cmpI a.1 b.1 else cmpI a.2 b.2
def orF : List Int → Int
  | [] => 0
  | x :: r => if x = 0 then orF r else x
theorem orF_two (x y : Int) : orF [x, y] = if x ≠ 0 then x else y := by
  simp only [orF]
  by_cases h : x = 0 <;> by_cases h2 : y = 0 <;> simp [h, h2]
theorem cmpI_rng (x y : Int) : -1 ≤ cmpI x y ∧ cmpI x y ≤ 1 := by unfold cmpI; split <;> (try split) <;> omega
theorem cmpT_lt {a b : Tm} : cmpT a b < 0 ↔ tlt a b := by
  unfold cmpT cmpI tlt
  repeat' split
  all_goals omega
end Go.Proofs.Wh
namespace Go.Proofs.Ytfblognifnnadaa
open Go.Proofs.Wh Go.RowKit
theorem infoTm : (Try.prog.info? 63).map (·.size) = some 2 := by kernel_rfl
theorem ret_i2 {a b : Int} (h : a = b) : Ending.returned (.int .i64 a) = .returned (.int .i64 b) := by rw [h]
set_option maxRecDepth 100000 in
set_option maxHeartbeats 4000000 in
theorem isNaN_u (x : Int) (w : World) : Calls Try.prog 102 #[.int .u64 x] w fun e w' => e = .returned (.bool false) ∧ w = w' := by
  have e : (x != x) = false := by simp
  go_enter Try.func102, Try.ntmps102
  go_wp2
  go_ret
  exact ⟨rfl, rfl⟩
set_option maxRecDepth 100000 in
set_option maxHeartbeats 4000000 in
theorem isNaN_i (x : Int) (w : World) : Calls Try.prog 103 #[.int .i64 x] w fun e w' => e = .returned (.bool false) ∧ w = w' := by
  have e : (x != x) = false := by simp
  go_enter Try.func103, Try.ntmps103
  go_wp2
  go_ret
  exact ⟨rfl, rfl⟩
set_option maxRecDepth 100000 in
set_option maxHeartbeats 4000000 in
theorem Compare_u (x y : Int) (w : World) : Calls Try.prog 58 #[.int .u64 x, .int .u64 y] w fun e w' => e = .returned (.int .i64 (cmpI x y)) ∧ w = w' := by
  by_cases h1 : x < y
  · have e : cmpI x y = -1 := if_pos h1
    rw [e]
    clear e
    go_enter Try.func58, Try.ntmps58
    go_wp2_with (first
      | (go_at_call 102; (with_reducible refine (isNaN_u _ _).mono ?_); rintro e w1 ⟨rfl, rfl⟩))
    go_ret
    exact ⟨rfl, rfl⟩
  · by_cases h2 : y < x
    · have e : cmpI x y = 1 := by unfold cmpI; rw [if_neg h1, if_pos h2]
      rw [e]
      clear e
      go_enter Try.func58, Try.ntmps58
      go_wp2_with (first
        | (go_at_call 102; (with_reducible refine (isNaN_u _ _).mono ?_); rintro e w1 ⟨rfl, rfl⟩))
      go_ret
      exact ⟨rfl, rfl⟩
    · have e : cmpI x y = 0 := by unfold cmpI; rw [if_neg h1, if_neg h2]
      rw [e]
      clear e
      go_enter Try.func58, Try.ntmps58
      go_wp2_with (first
        | (go_at_call 102; (with_reducible refine (isNaN_u _ _).mono ?_); rintro e w1 ⟨rfl, rfl⟩))
      go_ret
      exact ⟨rfl, rfl⟩
set_option maxRecDepth 100000 in
set_option maxHeartbeats 4000000 in
theorem Compare_i (x y : Int) (w : World) : Calls Try.prog 59 #[.int .i64 x, .int .i64 y] w fun e w' => e = .returned (.int .i64 (cmpI x y)) ∧ w = w' := by
  by_cases h1 : x < y
  · have e : cmpI x y = -1 := if_pos h1
    rw [e]
    clear e
    go_enter Try.func59, Try.ntmps59
    go_wp2_with (first
      | (go_at_call 103; (with_reducible refine (isNaN_i _ _).mono ?_); rintro e w1 ⟨rfl, rfl⟩))
    go_ret
    exact ⟨rfl, rfl⟩
  · by_cases h2 : y < x
    · have e : cmpI x y = 1 := by unfold cmpI; rw [if_neg h1, if_pos h2]
      rw [e]
      clear e
      go_enter Try.func59, Try.ntmps59
      go_wp2_with (first
        | (go_at_call 103; (with_reducible refine (isNaN_i _ _).mono ?_); rintro e w1 ⟨rfl, rfl⟩))
      go_ret
      exact ⟨rfl, rfl⟩
    · have e : cmpI x y = 0 := by unfold cmpI; rw [if_neg h1, if_neg h2]
      rw [e]
      clear e
      go_enter Try.func59, Try.ntmps59
      go_wp2_with (first
        | (go_at_call 103; (with_reducible refine (isNaN_i _ _).mono ?_); rintro e w1 ⟨rfl, rfl⟩))
      go_ret
      exact ⟨rfl, rfl⟩
set_option maxRecDepth 100000 in
set_option maxHeartbeats 4000000 in
theorem Or_any (a : Option Addr) (n cap : Nat) (cs : List Int) (hn5 : n ≤ 1000) (w : World) (hr : Rd w 1 (.slice a n cap) (cs.map (Value.int .i64))) : Calls Try.prog 57 #[.slice a n cap] w fun e w' => e = .returned (.int .i64 (orF cs)) ∧ New w w' := by
  have hv := (Mem.nil w).old hr
  have HL : Hid (cs.length = n) := Lib.hid (by
    obtain ⟨_, _, _, e, g, _⟩ := hr
    cases e
    rw [List.length_map] at g; omega)
  obtain ⟨c, hc⟩ : ∃ c, orF cs = c := ⟨_, rfl⟩
  rw [hc]
  have HC := Lib.hid hc
  have HN5 := Lib.hid hn5
  clear hr hc hn5
  go_enter Try.func57, Try.ntmps57
  go_wp2
  go_loopw [8] (fun kv wr => ∃ k : Nat, k ≤ n ∧ kv = .int .i64 (k : Nat) ∧ Mem w wr [] [(1, .slice a n cap, cs.map (Value.int .i64))] ∧ Hid (orF (cs.drop k) = c)) (fun kv _ => n - (intOf kv).toNat)
  case atStart => exact ⟨0, Nat.zero_le _, rfl, hv, Lib.hid (by rw [List.drop_zero]; exact HC.out)⟩
  case round =>
    clear hv
    obtain ⟨k, hk0, rfl, hv, HO⟩ := hrel
    by_cases hk : k < n
    · have hki : (k : Int) < (n : Int) := by omega
      have hkb : (k : Int) ≤ 5000 := by have := HN5.out; omega
      have hkl : k < cs.length := by rw [HL.out]; exact hk
      obtain ⟨z, hz⟩ : ∃ z, cs[k] = z := ⟨_, rfl⟩
      have HZ : Hid ((cs.map (Value.int .i64))[k]? = some (.int .i64 z)) := Lib.hid (by rw [List.getElem?_map, List.getElem?_eq_getElem hkl, hz]; rfl)
      have HD : Hid (cs.drop k = z :: cs.drop (k + 1)) := Lib.hid (by rw [List.drop_eq_getElem_cons hkl, hz])
      obtain ⟨b, o, _, _, e, _⟩ := (hv.rd Mem.z).some (by rw [List.length_map]; omega)
      cases e
      have HK := Lib.hid hk
      by_cases hz0 : z = 0
      · have y1 : (z != 0) = false := by rw [hz0]; rfl
        have HO2 : Hid (orF (cs.drop (k + 1)) = c) := Lib.hid (by
          have := HO.out
          rw [HD.out] at this
          unfold orF at this
          rwa [if_pos hz0] at this)
        clear hz hkl hk hk0 hz0
        go_wp2_with (first
          | ((with_reducible refine at_load (T := 3) ?_); refine wl_rd rfl (c := cs.map (Value.int .i64)) (hv.rd Mem.z) k rfl _ Try.underlying3 rfl (.int .i64 z) HZ.out ?_))
        have hkn := HK.out
        go_roundw
        case rel => exact ⟨k + 1, by omega, by go_num, hv, HO2⟩
        case measure => simp [intOf]; omega
      · have y1 : (z != 0) = true := by rw [bne_iff_ne]; exact hz0
        have HO2 : Hid (z = c) := Lib.hid (by
          have := HO.out
          rw [HD.out] at this
          unfold orF at this
          rwa [if_neg hz0] at this)
        clear hz hkl hk hk0 hz0
        go_wp2_with (first
          | ((with_reducible refine at_load (T := 3) ?_); refine wl_rd rfl (c := cs.map (Value.int .i64)) (hv.rd Mem.z) k rfl _ Try.underlying3 rfl (.int .i64 z) HZ.out ?_))
        go_ret
        exact ⟨ret_i2 HO2.out, hv.below⟩
    · have hki : ¬ (k : Int) < (n : Int) := by omega
      have HO2 : Hid (0 = c) := Lib.hid (by
        have := HO.out
        rw [List.drop_eq_nil_of_le (by rw [HL.out]; omega)] at this
        exact this)
      clear hk hk0
      go_wp2
      go_ret
      exact ⟨ret_i2 HO2.out, hv.below⟩
set_option maxRecDepth 100000 in
set_option maxHeartbeats 4000000 in
theorem compare_any (a b : Tm) (w : World) : Calls Try.prog 27 #[.agg #[.int .u64 (a.1 : Nat), .int .i64 a.2], .agg #[.int .u64 (b.1 : Nat), .int .i64 b.2]] w fun e w' => e = .returned (.int .i64 (cmpT a b)) ∧ New w w' := by
  have hv := Mem.nil w
  have HE : Hid (orF [cmpI a.1 b.1, cmpI a.2 b.2] = cmpT a b) := Lib.hid (orF_two _ _)
  go_enter Try.func27, Try.ntmps27
  go_wp2_with (first
    | ((with_reducible refine at_box (T := 63) (dst := some 2) ?_); refine wl_newb rfl #[.int .u64 (a.1 : Nat), .int .i64 a.2] 63 (fun _ => rfl) ?_; intro b2 w2 hm2; replace hv := hv.madeAt hm2; clear hm2)
    | ((with_reducible refine at_box (T := 63) (dst := some 3) ?_); refine wl_newb rfl #[.int .u64 (b.1 : Nat), .int .i64 b.2] 63 (fun _ => rfl) ?_; intro b3 w2 hm2; replace hv := hv.madeAt hm2; clear hm2))
  refine Any.wp_region_walk [⟨[], none⟩, ⟨[1001], none⟩, ⟨[], none⟩, ⟨[1000], none⟩, ⟨[], none⟩, ⟨[], none⟩, ⟨[1001], none⟩, ⟨[], none⟩, ⟨[1000], none⟩, ⟨[], none⟩, ⟨[], some 6⟩, ⟨[6], none⟩, ⟨[], none⟩] [.val, .val, .val, .val, .val, .val, .val, .val, .val, .val, .bsl 2 #[.int .i64 (cmpI a.1 b.1), .int .i64 (cmpI a.2 b.2)], .val, .val] (by kernel_rfl) (by kernel_rfl) hv.vars ?_
  simp only [List.length_cons, List.length_nil, Nat.zero_add, Any.someVals]
  iterate 13 apply Exists.intro
  repeat (first
    | (refine Any.E_off rfl ?_; simp only [Act.put, List.setIfInBounds_toArray, List.set_cons_succ, List.set_cons_zero])
    | (apply Any.E_pureq rfl rfl rfl
       case h => intro K hK; go_big_quiet_op; (refine hK _ ?_; rfl)
       case hr => exact fun _ => rfl
       simp only [Act.put, List.setIfInBounds_toArray, List.set_cons_succ, List.set_cons_zero])
    | (apply Any.E_val rfl rfl rfl rfl
       case h =>
         intro E' hA K hK
         first
           | ((with_reducible refine Any.at_qload (T := 22) ?_); refine Any.q_ldc 1000 hA (by decide) rfl rfl _ Try.underlying22 rfl _ rfl ?_; refine hK _ ?_; rfl)
           | ((with_reducible refine Any.at_qload (T := 22) ?_); refine Any.q_ldc 1001 hA (by decide) rfl rfl _ Try.underlying22 rfl _ rfl ?_; refine hK _ ?_; rfl)
           | ((with_reducible refine Any.at_qload (T := 3) ?_); refine Any.q_ldc 1000 hA (by decide) rfl rfl _ Try.underlying3 rfl _ rfl ?_; refine hK _ ?_; rfl)
           | ((with_reducible refine Any.at_qload (T := 3) ?_); refine Any.q_ldc 1001 hA (by decide) rfl rfl _ Try.underlying3 rfl _ rfl ?_; refine hK _ ?_; rfl)
           | (go_big_quiet_op; first
             | (refine hK _ ?_; rfl)
             | (refine ⟨_, fun _ _ => rfl, ?_⟩; refine hK _ ?_; rfl)
             | (apply Exists.intro; refine ⟨fun w1 hw1 => ?_, ?_⟩; · (first
                 | (go_at_call 58; exact Any.calls_VEq (Compare_u _ _ _) hw1)
                 | (go_at_call 59; exact Any.calls_VEq (Compare_i _ _ _) hw1)
                 | (go_at_call 57; exact Any.calls_VE (Or_any _ 2 2 [cmpI a.1 b.1, cmpI a.2 b.2] (by omega) _ (hw1.rd ((hA 6 (by decide)).trans rfl) 2 1 rfl (by unfold maxLen; omega))) hw1))
                refine hK _ ?_; rfl))
       case hD => rfl
       simp only [Act.put, List.setIfInBounds_toArray, List.set_cons_succ, List.set_cons_zero])
    | ((with_reducible refine Any.at_ealloc ?_); refine Any.E_lay rfl rfl rfl (fun _ => rfl) ?_; intro B; simp only [Act.put, List.setIfInBounds_toArray, List.set_cons_succ, List.set_cons_zero])
    | ((with_reducible refine Any.at_ebsl ?_); refine Any.E_bsl (n := 2) (z := #[.int .i64 (cmpI a.1 b.1), .int .i64 (cmpI a.2 b.2)]) (t := 3) rfl rfl rfl (fun w' => (by unfold execOp; go_simp)) ?_; intro B; simp only [Act.put, List.setIfInBounds_toArray, List.set_cons_succ, List.set_cons_zero]))
  try any_goals exact undef
  refine Any.E_nil ?_
  intro w9 hE9
  replace hv : Mem w w9 [(b3, #[.int .u64 (b.1 : Nat), .int .i64 b.2]), (b2, #[.int .u64 (a.1 : Nat), .int .i64 a.2])] [] := hE9.mem hv [1000, 1001] (by decide)
  clear hE9
  go_wp2
  go_ret
  exact ⟨ret_i2 HE.out, hv.below⟩
end Go.Proofs.Ytfblognifnnadaa
