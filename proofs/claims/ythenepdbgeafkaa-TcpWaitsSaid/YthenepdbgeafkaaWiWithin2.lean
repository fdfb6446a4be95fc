/-
 within again: its value as it is; nothing is read.
-/
import Derived.Test.YthenepdbgeafkaaGAJ
set_option maxRecDepth 100000
set_option maxHeartbeats 4000000
set_option linter.unusedVariables false
set_option linter.unusedSimpArgs false
namespace Go.Proofs.Ythenepdbgeafkaa
open Go.Proofs.Wi Go.RowKit
theorem withinv_no00 (x fr tt : Int) (da : Option Addr) (dn dc : Nat) (d : List Nat) (hld : d.length = dn) (hdc : dn ≤ dc) (hx1 : -1000000000000 ≤ x) (hx2 : x ≤ 1000000000000) (hf1 : -1000000000000 ≤ fr) (hf2 : fr ≤ 1000000000000) (ht1 : -1000000000000 ≤ tt) (ht2 : tt ≤ 1000000000000) (hdn : dn ≤ 1000000) (hp : ¬ x < fr) (hq : ¬ tt < x + (dn : Int)) (hle : (x + (dn : Int)) ≤ x) : within (x, d) fr tt = none ∧ ∀ w, Calls Try.prog 79 #[.agg #[.int .i64 x, .slice da dn dc], .int .i64 fr, .int .i64 tt] w fun e w' => e = .returned (.tuple #[.agg #[.int .i64 0, .slice none 0 0], .bool false]) ∧ New w w' := by
 refine ⟨by unfold within; exact if_pos (by simp only [hld]; omega), fun w => ?_⟩
 have hv := Mem.nil w
 have EN1 : Hid (∀ w', Calls Try.prog 65 #[.agg #[.int .i64 x, .slice da dn dc]] w' fun e w2 => e = .returned (.int .i64 (x + (dn : Int))) ∧ New w' w2) := Lib.hid (fun w' => end_any x da dn dc (by omega) (by omega) hdn w')
 have hpg : ¬ fr > x := hp
 have y1 : decide ((x + (dn : Int)) ≤ x) = true := decide_eq_true hle
 clear hx1 hx2 hf1 hf2 ht1 ht2 hdn
 go_enter Try.func79, Try.ntmps79
 go_wp2_with (first
   | ((with_reducible refine gBx 92 3 ?_); refine nwB hv #[.int .i64 x, .slice da dn dc] 92 ?_; clear hv; intro b3 w2 hv)
   | ((with_reducible refine gAl 92 6 ?_); refine nwB hv #[.int .i64 0, .slice none 0 0] 92 ?_; clear hv; intro b6 w2 hv))
 refine Any.wp_region_walk [⟨[], none⟩, ⟨[1001], none⟩, ⟨[], none⟩, ⟨[], none⟩, ⟨[1001], none⟩, ⟨[], none⟩, ⟨[], none⟩, ⟨[], none⟩, ⟨[], none⟩, ⟨[], none⟩] [.val, .val, .val, .val, .val, .val, .val, .val, .val, .val] (by kernel_rfl) (by kernel_rfl) hv.vars ?_
 simp only [List.length_cons, List.length_nil, Nat.zero_add, Any.someVals]
 iterate 10 apply Exists.intro
 repeat (first
   | (refine Any.E_off rfl ?_; simp only [Act.put, sia, scs, scz])
   | (apply Any.E_pureq rfl rfl rfl
      case h => intro K hK; go_big_quiet_op; (refine hK _ ?_; rfl)
      case hr => exact fun _ => rfl
      simp only [Act.put, sia, scs, scz])
   | (apply Any.E_val rfl rfl rfl rfl
      case h =>
        intro E' hA K hK
        first
          | ((with_reducible refine Any.at_qload (T := 92) ?_); refine Any.q_ldv 1001 hA (by decide) rfl rfl 2 _ Try.underlying92 rfl infoSp (by decide) rfl ?_; refine hK _ ?_; rfl)
          | ((with_reducible refine Any.at_qload (T := 3) ?_); refine Any.q_ldc 1001 hA (by decide) rfl rfl _ Try.underlying3 rfl _ rfl ?_; refine hK _ ?_; rfl)
          | (go_big_quiet_op; first
            | (refine hK _ ?_; rfl)
            | (refine ⟨_, fun _ _ => rfl, ?_⟩; refine hK _ ?_; rfl)
            | (apply Exists.intro; refine ⟨fun w1 hw1 => ?_, ?_⟩; · (first
                | (go_at_call 65; exact Any.calls_VE (EN1.out _) hw1))
               refine hK _ ?_; rfl))
      case hD => rfl
      simp only [Act.put, sia, scs, scz])
   | ((with_reducible refine Any.at_ealloc ?_); refine Any.E_lay rfl rfl rfl (fun _ => rfl) ?_; intro B; simp only [Act.put, sia, scs, scz]))
 try any_goals exact undef
 refine Any.E_nil ?_
 intro w9 hE9
 replace hv : Mem w w9 [(b6, #[.int .i64 0, .slice none 0 0]), (b3, #[.int .i64 x, .slice da dn dc])] [] := hE9.mem hv [1000, 1001] (by decide)
 clear hE9
 go_wp2_with (first
   | ((with_reducible refine at_build (T := 92) ?_); refine wl_build rfl _ rfl built_sp0 ?_)
   | ((with_reducible refine gSt 92 ?_); refine stV hv b6 2 infoSp ?_; clear hv; intro w2 hv))
 refine ret_cell2 Try.results79 rfl (read_row _ b6 92 _ hv.vars.ro 2 _ Try.underlying92 rfl infoSp (by decide) rfl) rfl rfl ⟨rfl, hv.below⟩
theorem withinv_yes00 (x fr tt : Int) (da : Option Addr) (dn dc : Nat) (d : List Nat) (hld : d.length = dn) (hdc : dn ≤ dc) (hx1 : -1000000000000 ≤ x) (hx2 : x ≤ 1000000000000) (hf1 : -1000000000000 ≤ fr) (hf2 : fr ≤ 1000000000000) (ht1 : -1000000000000 ≤ tt) (ht2 : tt ≤ 1000000000000) (hdn : dn ≤ 1000000) (hp : ¬ x < fr) (hq : ¬ tt < x + (dn : Int)) (hlt : x < (x + (dn : Int))) : ∃ l h : Nat, l ≤ h ∧ h ≤ dn ∧ within (x, d) fr tt = some (x, (d.drop l).take (h - l)) ∧ ∀ w, Calls Try.prog 79 #[.agg #[.int .i64 x, .slice da dn dc], .int .i64 fr, .int .i64 tt] w fun e w' => e = .returned (.tuple #[.agg #[.int .i64 x, sliced da l h h 1], .bool true]) ∧ New w w' := by
 have ql : IntKind.i64.wrap (x - x) = 0 := by rw [Int.sub_self]; rfl
 have qh : IntKind.i64.wrap (x + (dn : Int) - x) = (dn : Int) := by rw [show x + (dn : Int) - x = (dn : Int) from by omega]; exact IntWalk.i64_in _ (by omega)
 have qh2 : IntKind.i64.wrap (dn : Int) = (dn : Int) := IntWalk.i64_in _ (by omega)
 have HLH : Hid (0 ≤ dn) := Lib.hid (by omega)
 have HHC : Hid (dn ≤ dc) := Lib.hid (by omega)
 refine ⟨0, dn, HLH.out, by omega, ?_, fun w => ?_⟩
 · unfold within
   rw [if_neg (by simp only [hld]; omega)]
   simp only [Option.some.injEq, Prod.mk.injEq, hld]
   refine ⟨by omega, ?_⟩
   congr 1
   · omega
   · congr 1
     omega
 obtain ⟨ua, hua⟩ : ∃ ua, sliced da 0 dn dn 1 = .slice ua (dn - 0) (dn - 0) := ⟨_, rfl⟩
 rw [hua]
 have HU := Lib.hid hua
 clear hua
 have hv := Mem.nil w
 have EN1 : Hid (∀ w', Calls Try.prog 65 #[.agg #[.int .i64 x, .slice da dn dc]] w' fun e w2 => e = .returned (.int .i64 (x + (dn : Int))) ∧ New w' w2) := Lib.hid (fun w' => end_any x da dn dc (by omega) (by omega) hdn w')
 have hpg : ¬ fr > x := hp
 have y1 : decide ((x + (dn : Int)) ≤ x) = false := decide_eq_false (by omega)
 clear hx1 hx2 hf1 hf2 ht1 ht2 hdn hlt
 go_enter Try.func79, Try.ntmps79
 go_wp2_with (first
   | ((with_reducible refine gBx 92 3 ?_); refine nwB hv #[.int .i64 x, .slice da dn dc] 92 ?_; clear hv; intro b3 w2 hv)
   | ((with_reducible refine gAl 92 6 ?_); refine nwB hv #[.int .i64 0, .slice none 0 0] 92 ?_; clear hv; intro b6 w2 hv))
 refine Any.wp_region_walk [⟨[], none⟩, ⟨[1001], none⟩, ⟨[], none⟩, ⟨[], none⟩, ⟨[1001], none⟩, ⟨[], none⟩, ⟨[], none⟩, ⟨[], none⟩, ⟨[], none⟩, ⟨[], none⟩] [.val, .val, .val, .val, .val, .val, .val, .val, .val, .val] (by kernel_rfl) (by kernel_rfl) hv.vars ?_
 simp only [List.length_cons, List.length_nil, Nat.zero_add, Any.someVals]
 iterate 10 apply Exists.intro
 repeat (first
   | (refine Any.E_off rfl ?_; simp only [Act.put, sia, scs, scz])
   | (apply Any.E_pureq rfl rfl rfl
      case h => intro K hK; go_big_quiet_op; (refine hK _ ?_; rfl)
      case hr => exact fun _ => rfl
      simp only [Act.put, sia, scs, scz])
   | (apply Any.E_val rfl rfl rfl rfl
      case h =>
        intro E' hA K hK
        first
          | ((with_reducible refine Any.at_qload (T := 92) ?_); refine Any.q_ldv 1001 hA (by decide) rfl rfl 2 _ Try.underlying92 rfl infoSp (by decide) rfl ?_; refine hK _ ?_; rfl)
          | ((with_reducible refine Any.at_qload (T := 3) ?_); refine Any.q_ldc 1001 hA (by decide) rfl rfl _ Try.underlying3 rfl _ rfl ?_; refine hK _ ?_; rfl)
          | (go_big_quiet_op; first
            | (refine hK _ ?_; rfl)
            | (refine ⟨_, fun _ _ => rfl, ?_⟩; refine hK _ ?_; rfl)
            | (apply Exists.intro; refine ⟨fun w1 hw1 => ?_, ?_⟩; · (first
                | (go_at_call 65; exact Any.calls_VE (EN1.out _) hw1))
               refine hK _ ?_; rfl))
      case hD => rfl
      simp only [Act.put, sia, scs, scz])
   | ((with_reducible refine Any.at_ealloc ?_); refine Any.E_lay rfl rfl rfl (fun _ => rfl) ?_; intro B; simp only [Act.put, sia, scs, scz]))
 try any_goals exact undef
 refine Any.E_nil ?_
 intro w9 hE9
 replace hv : Mem w w9 [(b6, #[.int .i64 0, .slice none 0 0]), (b3, #[.int .i64 x, .slice da dn dc])] [] := hE9.mem hv [1000, 1001] (by decide)
 clear hE9
 go_wp2_with (first
   | ((with_reducible refine gLd 23 ?_); refine ldC hv _ _ _ Try.underlying23 ?_)
   | ((with_reducible refine gLd 3 ?_); refine ldC hv _ _ _ Try.underlying3 ?_)
   | ((with_reducible refine at_slice (T := 23) ?_); refine wl_sliceV rfl rfl Try.underlying23 infoB1 0 dn dn rfl rfl rfl HLH.out (Nat.le_refl _) HHC.out HU.out ?_)
   | ((with_reducible refine at_build (T := 92) ?_); refine wl_build rfl _ rfl (built_sp _ _ _ _) ?_)
   | ((with_reducible refine gSt 92 ?_); refine stV hv b6 2 infoSp ?_; clear hv; intro w2 hv))
 refine ret_cell2 Try.results79 rfl (read_row _ b6 92 _ hv.vars.ro 2 _ Try.underlying92 rfl infoSp (by decide) rfl) rfl rfl ⟨rfl, hv.below⟩
theorem withinv_no01 (x fr tt : Int) (da : Option Addr) (dn dc : Nat) (d : List Nat) (hld : d.length = dn) (hdc : dn ≤ dc) (hx1 : -1000000000000 ≤ x) (hx2 : x ≤ 1000000000000) (hf1 : -1000000000000 ≤ fr) (hf2 : fr ≤ 1000000000000) (ht1 : -1000000000000 ≤ tt) (ht2 : tt ≤ 1000000000000) (hdn : dn ≤ 1000000) (hp : ¬ x < fr) (hq : tt < x + (dn : Int)) (hle : tt ≤ x) : within (x, d) fr tt = none ∧ ∀ w, Calls Try.prog 79 #[.agg #[.int .i64 x, .slice da dn dc], .int .i64 fr, .int .i64 tt] w fun e w' => e = .returned (.tuple #[.agg #[.int .i64 0, .slice none 0 0], .bool false]) ∧ New w w' := by
 refine ⟨by unfold within; exact if_pos (by simp only [hld]; omega), fun w => ?_⟩
 have hv := Mem.nil w
 have EN1 : Hid (∀ w', Calls Try.prog 65 #[.agg #[.int .i64 x, .slice da dn dc]] w' fun e w2 => e = .returned (.int .i64 (x + (dn : Int))) ∧ New w' w2) := Lib.hid (fun w' => end_any x da dn dc (by omega) (by omega) hdn w')
 have hpg : ¬ fr > x := hp
 have y1 : decide (tt ≤ x) = true := decide_eq_true hle
 clear hx1 hx2 hf1 hf2 ht1 ht2 hdn
 go_enter Try.func79, Try.ntmps79
 go_wp2_with (first
   | ((with_reducible refine gBx 92 3 ?_); refine nwB hv #[.int .i64 x, .slice da dn dc] 92 ?_; clear hv; intro b3 w2 hv)
   | ((with_reducible refine gAl 92 6 ?_); refine nwB hv #[.int .i64 0, .slice none 0 0] 92 ?_; clear hv; intro b6 w2 hv))
 refine Any.wp_region_walk [⟨[], none⟩, ⟨[1001], none⟩, ⟨[], none⟩, ⟨[], none⟩, ⟨[1001], none⟩, ⟨[], none⟩, ⟨[], none⟩, ⟨[], none⟩, ⟨[], none⟩, ⟨[], none⟩] [.val, .val, .val, .val, .val, .val, .val, .val, .val, .val] (by kernel_rfl) (by kernel_rfl) hv.vars ?_
 simp only [List.length_cons, List.length_nil, Nat.zero_add, Any.someVals]
 iterate 10 apply Exists.intro
 repeat (first
   | (refine Any.E_off rfl ?_; simp only [Act.put, sia, scs, scz])
   | (apply Any.E_pureq rfl rfl rfl
      case h => intro K hK; go_big_quiet_op; (refine hK _ ?_; rfl)
      case hr => exact fun _ => rfl
      simp only [Act.put, sia, scs, scz])
   | (apply Any.E_val rfl rfl rfl rfl
      case h =>
        intro E' hA K hK
        first
          | ((with_reducible refine Any.at_qload (T := 92) ?_); refine Any.q_ldv 1001 hA (by decide) rfl rfl 2 _ Try.underlying92 rfl infoSp (by decide) rfl ?_; refine hK _ ?_; rfl)
          | ((with_reducible refine Any.at_qload (T := 3) ?_); refine Any.q_ldc 1001 hA (by decide) rfl rfl _ Try.underlying3 rfl _ rfl ?_; refine hK _ ?_; rfl)
          | (go_big_quiet_op; first
            | (refine hK _ ?_; rfl)
            | (refine ⟨_, fun _ _ => rfl, ?_⟩; refine hK _ ?_; rfl)
            | (apply Exists.intro; refine ⟨fun w1 hw1 => ?_, ?_⟩; · (first
                | (go_at_call 65; exact Any.calls_VE (EN1.out _) hw1))
               refine hK _ ?_; rfl))
      case hD => rfl
      simp only [Act.put, sia, scs, scz])
   | ((with_reducible refine Any.at_ealloc ?_); refine Any.E_lay rfl rfl rfl (fun _ => rfl) ?_; intro B; simp only [Act.put, sia, scs, scz]))
 try any_goals exact undef
 refine Any.E_nil ?_
 intro w9 hE9
 replace hv : Mem w w9 [(b6, #[.int .i64 0, .slice none 0 0]), (b3, #[.int .i64 x, .slice da dn dc])] [] := hE9.mem hv [1000, 1001] (by decide)
 clear hE9
 go_wp2_with (first
   | ((with_reducible refine at_build (T := 92) ?_); refine wl_build rfl _ rfl built_sp0 ?_)
   | ((with_reducible refine gSt 92 ?_); refine stV hv b6 2 infoSp ?_; clear hv; intro w2 hv))
 refine ret_cell2 Try.results79 rfl (read_row _ b6 92 _ hv.vars.ro 2 _ Try.underlying92 rfl infoSp (by decide) rfl) rfl rfl ⟨rfl, hv.below⟩
theorem withinv_yes01 (x fr tt : Int) (da : Option Addr) (dn dc : Nat) (d : List Nat) (hld : d.length = dn) (hdc : dn ≤ dc) (hx1 : -1000000000000 ≤ x) (hx2 : x ≤ 1000000000000) (hf1 : -1000000000000 ≤ fr) (hf2 : fr ≤ 1000000000000) (ht1 : -1000000000000 ≤ tt) (ht2 : tt ≤ 1000000000000) (hdn : dn ≤ 1000000) (hp : ¬ x < fr) (hq : tt < x + (dn : Int)) (hlt : x < tt) : ∃ l h : Nat, l ≤ h ∧ h ≤ dn ∧ within (x, d) fr tt = some (x, (d.drop l).take (h - l)) ∧ ∀ w, Calls Try.prog 79 #[.agg #[.int .i64 x, .slice da dn dc], .int .i64 fr, .int .i64 tt] w fun e w' => e = .returned (.tuple #[.agg #[.int .i64 x, sliced da l h h 1], .bool true]) ∧ New w w' := by
 have ql : IntKind.i64.wrap (x - x) = 0 := by rw [Int.sub_self]; rfl
 obtain ⟨h, hh⟩ : ∃ h : Nat, tt - x = (h : Int) := ⟨(tt - x).toNat, by omega⟩
 have qh : IntKind.i64.wrap (tt - x) = (h : Int) := by rw [hh]; exact IntWalk.i64_in _ (by omega)
 have HLH : Hid (0 ≤ h) := Lib.hid (by omega)
 have HHC : Hid (h ≤ dc) := Lib.hid (by omega)
 refine ⟨0, h, HLH.out, by omega, ?_, fun w => ?_⟩
 · unfold within
   rw [if_neg (by simp only [hld]; omega)]
   simp only [Option.some.injEq, Prod.mk.injEq, hld]
   refine ⟨by omega, ?_⟩
   congr 1
   · omega
   · congr 1
     omega
 obtain ⟨ua, hua⟩ : ∃ ua, sliced da 0 h h 1 = .slice ua (h - 0) (h - 0) := ⟨_, rfl⟩
 rw [hua]
 have HU := Lib.hid hua
 clear hua
 have hv := Mem.nil w
 have EN1 : Hid (∀ w', Calls Try.prog 65 #[.agg #[.int .i64 x, .slice da dn dc]] w' fun e w2 => e = .returned (.int .i64 (x + (dn : Int))) ∧ New w' w2) := Lib.hid (fun w' => end_any x da dn dc (by omega) (by omega) hdn w')
 have hpg : ¬ fr > x := hp
 have y1 : decide (tt ≤ x) = false := decide_eq_false (by omega)
 clear hx1 hx2 hf1 hf2 ht1 ht2 hdn hlt hh
 go_enter Try.func79, Try.ntmps79
 go_wp2_with (first
   | ((with_reducible refine gBx 92 3 ?_); refine nwB hv #[.int .i64 x, .slice da dn dc] 92 ?_; clear hv; intro b3 w2 hv)
   | ((with_reducible refine gAl 92 6 ?_); refine nwB hv #[.int .i64 0, .slice none 0 0] 92 ?_; clear hv; intro b6 w2 hv))
 refine Any.wp_region_walk [⟨[], none⟩, ⟨[1001], none⟩, ⟨[], none⟩, ⟨[], none⟩, ⟨[1001], none⟩, ⟨[], none⟩, ⟨[], none⟩, ⟨[], none⟩, ⟨[], none⟩, ⟨[], none⟩] [.val, .val, .val, .val, .val, .val, .val, .val, .val, .val] (by kernel_rfl) (by kernel_rfl) hv.vars ?_
 simp only [List.length_cons, List.length_nil, Nat.zero_add, Any.someVals]
 iterate 10 apply Exists.intro
 repeat (first
   | (refine Any.E_off rfl ?_; simp only [Act.put, sia, scs, scz])
   | (apply Any.E_pureq rfl rfl rfl
      case h => intro K hK; go_big_quiet_op; (refine hK _ ?_; rfl)
      case hr => exact fun _ => rfl
      simp only [Act.put, sia, scs, scz])
   | (apply Any.E_val rfl rfl rfl rfl
      case h =>
        intro E' hA K hK
        first
          | ((with_reducible refine Any.at_qload (T := 92) ?_); refine Any.q_ldv 1001 hA (by decide) rfl rfl 2 _ Try.underlying92 rfl infoSp (by decide) rfl ?_; refine hK _ ?_; rfl)
          | ((with_reducible refine Any.at_qload (T := 3) ?_); refine Any.q_ldc 1001 hA (by decide) rfl rfl _ Try.underlying3 rfl _ rfl ?_; refine hK _ ?_; rfl)
          | (go_big_quiet_op; first
            | (refine hK _ ?_; rfl)
            | (refine ⟨_, fun _ _ => rfl, ?_⟩; refine hK _ ?_; rfl)
            | (apply Exists.intro; refine ⟨fun w1 hw1 => ?_, ?_⟩; · (first
                | (go_at_call 65; exact Any.calls_VE (EN1.out _) hw1))
               refine hK _ ?_; rfl))
      case hD => rfl
      simp only [Act.put, sia, scs, scz])
   | ((with_reducible refine Any.at_ealloc ?_); refine Any.E_lay rfl rfl rfl (fun _ => rfl) ?_; intro B; simp only [Act.put, sia, scs, scz]))
 try any_goals exact undef
 refine Any.E_nil ?_
 intro w9 hE9
 replace hv : Mem w w9 [(b6, #[.int .i64 0, .slice none 0 0]), (b3, #[.int .i64 x, .slice da dn dc])] [] := hE9.mem hv [1000, 1001] (by decide)
 clear hE9
 go_wp2_with (first
   | ((with_reducible refine gLd 23 ?_); refine ldC hv _ _ _ Try.underlying23 ?_)
   | ((with_reducible refine gLd 3 ?_); refine ldC hv _ _ _ Try.underlying3 ?_)
   | ((with_reducible refine at_slice (T := 23) ?_); refine wl_sliceV rfl rfl Try.underlying23 infoB1 0 h h rfl rfl rfl HLH.out (Nat.le_refl _) HHC.out HU.out ?_)
   | ((with_reducible refine at_build (T := 92) ?_); refine wl_build rfl _ rfl (built_sp _ _ _ _) ?_)
   | ((with_reducible refine gSt 92 ?_); refine stV hv b6 2 infoSp ?_; clear hv; intro w2 hv))
 refine ret_cell2 Try.results79 rfl (read_row _ b6 92 _ hv.vars.ro 2 _ Try.underlying92 rfl infoSp (by decide) rfl) rfl rfl ⟨rfl, hv.below⟩
theorem withinv_no10 (x fr tt : Int) (da : Option Addr) (dn dc : Nat) (d : List Nat) (hld : d.length = dn) (hdc : dn ≤ dc) (hx1 : -1000000000000 ≤ x) (hx2 : x ≤ 1000000000000) (hf1 : -1000000000000 ≤ fr) (hf2 : fr ≤ 1000000000000) (ht1 : -1000000000000 ≤ tt) (ht2 : tt ≤ 1000000000000) (hdn : dn ≤ 1000000) (hp : x < fr) (hq : ¬ tt < x + (dn : Int)) (hle : (x + (dn : Int)) ≤ fr) : within (x, d) fr tt = none ∧ ∀ w, Calls Try.prog 79 #[.agg #[.int .i64 x, .slice da dn dc], .int .i64 fr, .int .i64 tt] w fun e w' => e = .returned (.tuple #[.agg #[.int .i64 0, .slice none 0 0], .bool false]) ∧ New w w' := by
 refine ⟨by unfold within; exact if_pos (by simp only [hld]; omega), fun w => ?_⟩
 have hv := Mem.nil w
 have EN1 : Hid (∀ w', Calls Try.prog 65 #[.agg #[.int .i64 x, .slice da dn dc]] w' fun e w2 => e = .returned (.int .i64 (x + (dn : Int))) ∧ New w' w2) := Lib.hid (fun w' => end_any x da dn dc (by omega) (by omega) hdn w')
 have hpg : fr > x := hp
 have y1 : decide ((x + (dn : Int)) ≤ fr) = true := decide_eq_true hle
 clear hx1 hx2 hf1 hf2 ht1 ht2 hdn
 go_enter Try.func79, Try.ntmps79
 go_wp2_with (first
   | ((with_reducible refine gBx 92 3 ?_); refine nwB hv #[.int .i64 x, .slice da dn dc] 92 ?_; clear hv; intro b3 w2 hv)
   | ((with_reducible refine gAl 92 6 ?_); refine nwB hv #[.int .i64 0, .slice none 0 0] 92 ?_; clear hv; intro b6 w2 hv))
 refine Any.wp_region_walk [⟨[], none⟩, ⟨[1001], none⟩, ⟨[], none⟩, ⟨[], none⟩, ⟨[1001], none⟩, ⟨[], none⟩, ⟨[], none⟩, ⟨[], none⟩, ⟨[], none⟩, ⟨[], none⟩] [.val, .val, .val, .val, .val, .val, .val, .val, .val, .val] (by kernel_rfl) (by kernel_rfl) hv.vars ?_
 simp only [List.length_cons, List.length_nil, Nat.zero_add, Any.someVals]
 iterate 10 apply Exists.intro
 repeat (first
   | (refine Any.E_off rfl ?_; simp only [Act.put, sia, scs, scz])
   | (apply Any.E_pureq rfl rfl rfl
      case h => intro K hK; go_big_quiet_op; (refine hK _ ?_; rfl)
      case hr => exact fun _ => rfl
      simp only [Act.put, sia, scs, scz])
   | (apply Any.E_val rfl rfl rfl rfl
      case h =>
        intro E' hA K hK
        first
          | ((with_reducible refine Any.at_qload (T := 92) ?_); refine Any.q_ldv 1001 hA (by decide) rfl rfl 2 _ Try.underlying92 rfl infoSp (by decide) rfl ?_; refine hK _ ?_; rfl)
          | ((with_reducible refine Any.at_qload (T := 3) ?_); refine Any.q_ldc 1001 hA (by decide) rfl rfl _ Try.underlying3 rfl _ rfl ?_; refine hK _ ?_; rfl)
          | (go_big_quiet_op; first
            | (refine hK _ ?_; rfl)
            | (refine ⟨_, fun _ _ => rfl, ?_⟩; refine hK _ ?_; rfl)
            | (apply Exists.intro; refine ⟨fun w1 hw1 => ?_, ?_⟩; · (first
                | (go_at_call 65; exact Any.calls_VE (EN1.out _) hw1))
               refine hK _ ?_; rfl))
      case hD => rfl
      simp only [Act.put, sia, scs, scz])
   | ((with_reducible refine Any.at_ealloc ?_); refine Any.E_lay rfl rfl rfl (fun _ => rfl) ?_; intro B; simp only [Act.put, sia, scs, scz]))
 try any_goals exact undef
 refine Any.E_nil ?_
 intro w9 hE9
 replace hv : Mem w w9 [(b6, #[.int .i64 0, .slice none 0 0]), (b3, #[.int .i64 x, .slice da dn dc])] [] := hE9.mem hv [1000, 1001] (by decide)
 clear hE9
 go_wp2_with (first
   | ((with_reducible refine at_build (T := 92) ?_); refine wl_build rfl _ rfl built_sp0 ?_)
   | ((with_reducible refine gSt 92 ?_); refine stV hv b6 2 infoSp ?_; clear hv; intro w2 hv))
 refine ret_cell2 Try.results79 rfl (read_row _ b6 92 _ hv.vars.ro 2 _ Try.underlying92 rfl infoSp (by decide) rfl) rfl rfl ⟨rfl, hv.below⟩
theorem withinv_yes10 (x fr tt : Int) (da : Option Addr) (dn dc : Nat) (d : List Nat) (hld : d.length = dn) (hdc : dn ≤ dc) (hx1 : -1000000000000 ≤ x) (hx2 : x ≤ 1000000000000) (hf1 : -1000000000000 ≤ fr) (hf2 : fr ≤ 1000000000000) (ht1 : -1000000000000 ≤ tt) (ht2 : tt ≤ 1000000000000) (hdn : dn ≤ 1000000) (hp : x < fr) (hq : ¬ tt < x + (dn : Int)) (hlt : fr < (x + (dn : Int))) : ∃ l h : Nat, l ≤ h ∧ h ≤ dn ∧ within (x, d) fr tt = some (fr, (d.drop l).take (h - l)) ∧ ∀ w, Calls Try.prog 79 #[.agg #[.int .i64 x, .slice da dn dc], .int .i64 fr, .int .i64 tt] w fun e w' => e = .returned (.tuple #[.agg #[.int .i64 fr, sliced da l h h 1], .bool true]) ∧ New w w' := by
 obtain ⟨l, hl⟩ : ∃ l : Nat, fr - x = (l : Int) := ⟨(fr - x).toNat, by omega⟩
 have ql : IntKind.i64.wrap (fr - x) = (l : Int) := by rw [hl]; exact IntWalk.i64_in _ (by omega)
 have qh : IntKind.i64.wrap (x + (dn : Int) - x) = (dn : Int) := by rw [show x + (dn : Int) - x = (dn : Int) from by omega]; exact IntWalk.i64_in _ (by omega)
 have qh2 : IntKind.i64.wrap (dn : Int) = (dn : Int) := IntWalk.i64_in _ (by omega)
 have HLH : Hid (l ≤ dn) := Lib.hid (by omega)
 have HHC : Hid (dn ≤ dc) := Lib.hid (by omega)
 refine ⟨l, dn, HLH.out, by omega, ?_, fun w => ?_⟩
 · unfold within
   rw [if_neg (by simp only [hld]; omega)]
   simp only [Option.some.injEq, Prod.mk.injEq, hld]
   refine ⟨by omega, ?_⟩
   congr 1
   · omega
   · congr 1
     omega
 obtain ⟨ua, hua⟩ : ∃ ua, sliced da l dn dn 1 = .slice ua (dn - l) (dn - l) := ⟨_, rfl⟩
 rw [hua]
 have HU := Lib.hid hua
 clear hua
 have hv := Mem.nil w
 have EN1 : Hid (∀ w', Calls Try.prog 65 #[.agg #[.int .i64 x, .slice da dn dc]] w' fun e w2 => e = .returned (.int .i64 (x + (dn : Int))) ∧ New w' w2) := Lib.hid (fun w' => end_any x da dn dc (by omega) (by omega) hdn w')
 have hpg : fr > x := hp
 have y1 : decide ((x + (dn : Int)) ≤ fr) = false := decide_eq_false (by omega)
 clear hx1 hx2 hf1 hf2 ht1 ht2 hdn hlt hl
 go_enter Try.func79, Try.ntmps79
 go_wp2_with (first
   | ((with_reducible refine gBx 92 3 ?_); refine nwB hv #[.int .i64 x, .slice da dn dc] 92 ?_; clear hv; intro b3 w2 hv)
   | ((with_reducible refine gAl 92 6 ?_); refine nwB hv #[.int .i64 0, .slice none 0 0] 92 ?_; clear hv; intro b6 w2 hv))
 refine Any.wp_region_walk [⟨[], none⟩, ⟨[1001], none⟩, ⟨[], none⟩, ⟨[], none⟩, ⟨[1001], none⟩, ⟨[], none⟩, ⟨[], none⟩, ⟨[], none⟩, ⟨[], none⟩, ⟨[], none⟩] [.val, .val, .val, .val, .val, .val, .val, .val, .val, .val] (by kernel_rfl) (by kernel_rfl) hv.vars ?_
 simp only [List.length_cons, List.length_nil, Nat.zero_add, Any.someVals]
 iterate 10 apply Exists.intro
 repeat (first
   | (refine Any.E_off rfl ?_; simp only [Act.put, sia, scs, scz])
   | (apply Any.E_pureq rfl rfl rfl
      case h => intro K hK; go_big_quiet_op; (refine hK _ ?_; rfl)
      case hr => exact fun _ => rfl
      simp only [Act.put, sia, scs, scz])
   | (apply Any.E_val rfl rfl rfl rfl
      case h =>
        intro E' hA K hK
        first
          | ((with_reducible refine Any.at_qload (T := 92) ?_); refine Any.q_ldv 1001 hA (by decide) rfl rfl 2 _ Try.underlying92 rfl infoSp (by decide) rfl ?_; refine hK _ ?_; rfl)
          | ((with_reducible refine Any.at_qload (T := 3) ?_); refine Any.q_ldc 1001 hA (by decide) rfl rfl _ Try.underlying3 rfl _ rfl ?_; refine hK _ ?_; rfl)
          | (go_big_quiet_op; first
            | (refine hK _ ?_; rfl)
            | (refine ⟨_, fun _ _ => rfl, ?_⟩; refine hK _ ?_; rfl)
            | (apply Exists.intro; refine ⟨fun w1 hw1 => ?_, ?_⟩; · (first
                | (go_at_call 65; exact Any.calls_VE (EN1.out _) hw1))
               refine hK _ ?_; rfl))
      case hD => rfl
      simp only [Act.put, sia, scs, scz])
   | ((with_reducible refine Any.at_ealloc ?_); refine Any.E_lay rfl rfl rfl (fun _ => rfl) ?_; intro B; simp only [Act.put, sia, scs, scz]))
 try any_goals exact undef
 refine Any.E_nil ?_
 intro w9 hE9
 replace hv : Mem w w9 [(b6, #[.int .i64 0, .slice none 0 0]), (b3, #[.int .i64 x, .slice da dn dc])] [] := hE9.mem hv [1000, 1001] (by decide)
 clear hE9
 go_wp2_with (first
   | ((with_reducible refine gLd 23 ?_); refine ldC hv _ _ _ Try.underlying23 ?_)
   | ((with_reducible refine gLd 3 ?_); refine ldC hv _ _ _ Try.underlying3 ?_)
   | ((with_reducible refine at_slice (T := 23) ?_); refine wl_sliceV rfl rfl Try.underlying23 infoB1 l dn dn rfl rfl rfl HLH.out (Nat.le_refl _) HHC.out HU.out ?_)
   | ((with_reducible refine at_build (T := 92) ?_); refine wl_build rfl _ rfl (built_sp _ _ _ _) ?_)
   | ((with_reducible refine gSt 92 ?_); refine stV hv b6 2 infoSp ?_; clear hv; intro w2 hv))
 refine ret_cell2 Try.results79 rfl (read_row _ b6 92 _ hv.vars.ro 2 _ Try.underlying92 rfl infoSp (by decide) rfl) rfl rfl ⟨rfl, hv.below⟩
theorem withinv_no11 (x fr tt : Int) (da : Option Addr) (dn dc : Nat) (d : List Nat) (hld : d.length = dn) (hdc : dn ≤ dc) (hx1 : -1000000000000 ≤ x) (hx2 : x ≤ 1000000000000) (hf1 : -1000000000000 ≤ fr) (hf2 : fr ≤ 1000000000000) (ht1 : -1000000000000 ≤ tt) (ht2 : tt ≤ 1000000000000) (hdn : dn ≤ 1000000) (hp : x < fr) (hq : tt < x + (dn : Int)) (hle : tt ≤ fr) : within (x, d) fr tt = none ∧ ∀ w, Calls Try.prog 79 #[.agg #[.int .i64 x, .slice da dn dc], .int .i64 fr, .int .i64 tt] w fun e w' => e = .returned (.tuple #[.agg #[.int .i64 0, .slice none 0 0], .bool false]) ∧ New w w' := by
 refine ⟨by unfold within; exact if_pos (by simp only [hld]; omega), fun w => ?_⟩
 have hv := Mem.nil w
 have EN1 : Hid (∀ w', Calls Try.prog 65 #[.agg #[.int .i64 x, .slice da dn dc]] w' fun e w2 => e = .returned (.int .i64 (x + (dn : Int))) ∧ New w' w2) := Lib.hid (fun w' => end_any x da dn dc (by omega) (by omega) hdn w')
 have hpg : fr > x := hp
 have y1 : decide (tt ≤ fr) = true := decide_eq_true hle
 clear hx1 hx2 hf1 hf2 ht1 ht2 hdn
 go_enter Try.func79, Try.ntmps79
 go_wp2_with (first
   | ((with_reducible refine gBx 92 3 ?_); refine nwB hv #[.int .i64 x, .slice da dn dc] 92 ?_; clear hv; intro b3 w2 hv)
   | ((with_reducible refine gAl 92 6 ?_); refine nwB hv #[.int .i64 0, .slice none 0 0] 92 ?_; clear hv; intro b6 w2 hv))
 refine Any.wp_region_walk [⟨[], none⟩, ⟨[1001], none⟩, ⟨[], none⟩, ⟨[], none⟩, ⟨[1001], none⟩, ⟨[], none⟩, ⟨[], none⟩, ⟨[], none⟩, ⟨[], none⟩, ⟨[], none⟩] [.val, .val, .val, .val, .val, .val, .val, .val, .val, .val] (by kernel_rfl) (by kernel_rfl) hv.vars ?_
 simp only [List.length_cons, List.length_nil, Nat.zero_add, Any.someVals]
 iterate 10 apply Exists.intro
 repeat (first
   | (refine Any.E_off rfl ?_; simp only [Act.put, sia, scs, scz])
   | (apply Any.E_pureq rfl rfl rfl
      case h => intro K hK; go_big_quiet_op; (refine hK _ ?_; rfl)
      case hr => exact fun _ => rfl
      simp only [Act.put, sia, scs, scz])
   | (apply Any.E_val rfl rfl rfl rfl
      case h =>
        intro E' hA K hK
        first
          | ((with_reducible refine Any.at_qload (T := 92) ?_); refine Any.q_ldv 1001 hA (by decide) rfl rfl 2 _ Try.underlying92 rfl infoSp (by decide) rfl ?_; refine hK _ ?_; rfl)
          | ((with_reducible refine Any.at_qload (T := 3) ?_); refine Any.q_ldc 1001 hA (by decide) rfl rfl _ Try.underlying3 rfl _ rfl ?_; refine hK _ ?_; rfl)
          | (go_big_quiet_op; first
            | (refine hK _ ?_; rfl)
            | (refine ⟨_, fun _ _ => rfl, ?_⟩; refine hK _ ?_; rfl)
            | (apply Exists.intro; refine ⟨fun w1 hw1 => ?_, ?_⟩; · (first
                | (go_at_call 65; exact Any.calls_VE (EN1.out _) hw1))
               refine hK _ ?_; rfl))
      case hD => rfl
      simp only [Act.put, sia, scs, scz])
   | ((with_reducible refine Any.at_ealloc ?_); refine Any.E_lay rfl rfl rfl (fun _ => rfl) ?_; intro B; simp only [Act.put, sia, scs, scz]))
 try any_goals exact undef
 refine Any.E_nil ?_
 intro w9 hE9
 replace hv : Mem w w9 [(b6, #[.int .i64 0, .slice none 0 0]), (b3, #[.int .i64 x, .slice da dn dc])] [] := hE9.mem hv [1000, 1001] (by decide)
 clear hE9
 go_wp2_with (first
   | ((with_reducible refine at_build (T := 92) ?_); refine wl_build rfl _ rfl built_sp0 ?_)
   | ((with_reducible refine gSt 92 ?_); refine stV hv b6 2 infoSp ?_; clear hv; intro w2 hv))
 refine ret_cell2 Try.results79 rfl (read_row _ b6 92 _ hv.vars.ro 2 _ Try.underlying92 rfl infoSp (by decide) rfl) rfl rfl ⟨rfl, hv.below⟩
theorem withinv_yes11 (x fr tt : Int) (da : Option Addr) (dn dc : Nat) (d : List Nat) (hld : d.length = dn) (hdc : dn ≤ dc) (hx1 : -1000000000000 ≤ x) (hx2 : x ≤ 1000000000000) (hf1 : -1000000000000 ≤ fr) (hf2 : fr ≤ 1000000000000) (ht1 : -1000000000000 ≤ tt) (ht2 : tt ≤ 1000000000000) (hdn : dn ≤ 1000000) (hp : x < fr) (hq : tt < x + (dn : Int)) (hlt : fr < tt) : ∃ l h : Nat, l ≤ h ∧ h ≤ dn ∧ within (x, d) fr tt = some (fr, (d.drop l).take (h - l)) ∧ ∀ w, Calls Try.prog 79 #[.agg #[.int .i64 x, .slice da dn dc], .int .i64 fr, .int .i64 tt] w fun e w' => e = .returned (.tuple #[.agg #[.int .i64 fr, sliced da l h h 1], .bool true]) ∧ New w w' := by
 obtain ⟨l, hl⟩ : ∃ l : Nat, fr - x = (l : Int) := ⟨(fr - x).toNat, by omega⟩
 have ql : IntKind.i64.wrap (fr - x) = (l : Int) := by rw [hl]; exact IntWalk.i64_in _ (by omega)
 obtain ⟨h, hh⟩ : ∃ h : Nat, tt - x = (h : Int) := ⟨(tt - x).toNat, by omega⟩
 have qh : IntKind.i64.wrap (tt - x) = (h : Int) := by rw [hh]; exact IntWalk.i64_in _ (by omega)
 have HLH : Hid (l ≤ h) := Lib.hid (by omega)
 have HHC : Hid (h ≤ dc) := Lib.hid (by omega)
 refine ⟨l, h, HLH.out, by omega, ?_, fun w => ?_⟩
 · unfold within
   rw [if_neg (by simp only [hld]; omega)]
   simp only [Option.some.injEq, Prod.mk.injEq, hld]
   refine ⟨by omega, ?_⟩
   congr 1
   · omega
   · congr 1
     omega
 obtain ⟨ua, hua⟩ : ∃ ua, sliced da l h h 1 = .slice ua (h - l) (h - l) := ⟨_, rfl⟩
 rw [hua]
 have HU := Lib.hid hua
 clear hua
 have hv := Mem.nil w
 have EN1 : Hid (∀ w', Calls Try.prog 65 #[.agg #[.int .i64 x, .slice da dn dc]] w' fun e w2 => e = .returned (.int .i64 (x + (dn : Int))) ∧ New w' w2) := Lib.hid (fun w' => end_any x da dn dc (by omega) (by omega) hdn w')
 have hpg : fr > x := hp
 have y1 : decide (tt ≤ fr) = false := decide_eq_false (by omega)
 clear hx1 hx2 hf1 hf2 ht1 ht2 hdn hlt hl hh
 go_enter Try.func79, Try.ntmps79
 go_wp2_with (first
   | ((with_reducible refine gBx 92 3 ?_); refine nwB hv #[.int .i64 x, .slice da dn dc] 92 ?_; clear hv; intro b3 w2 hv)
   | ((with_reducible refine gAl 92 6 ?_); refine nwB hv #[.int .i64 0, .slice none 0 0] 92 ?_; clear hv; intro b6 w2 hv))
 refine Any.wp_region_walk [⟨[], none⟩, ⟨[1001], none⟩, ⟨[], none⟩, ⟨[], none⟩, ⟨[1001], none⟩, ⟨[], none⟩, ⟨[], none⟩, ⟨[], none⟩, ⟨[], none⟩, ⟨[], none⟩] [.val, .val, .val, .val, .val, .val, .val, .val, .val, .val] (by kernel_rfl) (by kernel_rfl) hv.vars ?_
 simp only [List.length_cons, List.length_nil, Nat.zero_add, Any.someVals]
 iterate 10 apply Exists.intro
 repeat (first
   | (refine Any.E_off rfl ?_; simp only [Act.put, sia, scs, scz])
   | (apply Any.E_pureq rfl rfl rfl
      case h => intro K hK; go_big_quiet_op; (refine hK _ ?_; rfl)
      case hr => exact fun _ => rfl
      simp only [Act.put, sia, scs, scz])
   | (apply Any.E_val rfl rfl rfl rfl
      case h =>
        intro E' hA K hK
        first
          | ((with_reducible refine Any.at_qload (T := 92) ?_); refine Any.q_ldv 1001 hA (by decide) rfl rfl 2 _ Try.underlying92 rfl infoSp (by decide) rfl ?_; refine hK _ ?_; rfl)
          | ((with_reducible refine Any.at_qload (T := 3) ?_); refine Any.q_ldc 1001 hA (by decide) rfl rfl _ Try.underlying3 rfl _ rfl ?_; refine hK _ ?_; rfl)
          | (go_big_quiet_op; first
            | (refine hK _ ?_; rfl)
            | (refine ⟨_, fun _ _ => rfl, ?_⟩; refine hK _ ?_; rfl)
            | (apply Exists.intro; refine ⟨fun w1 hw1 => ?_, ?_⟩; · (first
                | (go_at_call 65; exact Any.calls_VE (EN1.out _) hw1))
               refine hK _ ?_; rfl))
      case hD => rfl
      simp only [Act.put, sia, scs, scz])
   | ((with_reducible refine Any.at_ealloc ?_); refine Any.E_lay rfl rfl rfl (fun _ => rfl) ?_; intro B; simp only [Act.put, sia, scs, scz]))
 try any_goals exact undef
 refine Any.E_nil ?_
 intro w9 hE9
 replace hv : Mem w w9 [(b6, #[.int .i64 0, .slice none 0 0]), (b3, #[.int .i64 x, .slice da dn dc])] [] := hE9.mem hv [1000, 1001] (by decide)
 clear hE9
 go_wp2_with (first
   | ((with_reducible refine gLd 23 ?_); refine ldC hv _ _ _ Try.underlying23 ?_)
   | ((with_reducible refine gLd 3 ?_); refine ldC hv _ _ _ Try.underlying3 ?_)
   | ((with_reducible refine at_slice (T := 23) ?_); refine wl_sliceV rfl rfl Try.underlying23 infoB1 l h h rfl rfl rfl HLH.out (Nat.le_refl _) HHC.out HU.out ?_)
   | ((with_reducible refine at_build (T := 92) ?_); refine wl_build rfl _ rfl (built_sp _ _ _ _) ?_)
   | ((with_reducible refine gSt 92 ?_); refine stV hv b6 2 infoSp ?_; clear hv; intro w2 hv))
 refine ret_cell2 Try.results79 rfl (read_row _ b6 92 _ hv.vars.ro 2 _ Try.underlying92 rfl infoSp (by decide) rfl) rfl rfl ⟨rfl, hv.below⟩
theorem within_val (x fr tt : Int) (da : Option Addr) (dn dc : Nat) (d : List Nat) (hld : d.length = dn) (hdc : dn ≤ dc) (hx1 : -1000000000000 ≤ x) (hx2 : x ≤ 1000000000000) (hf1 : -1000000000000 ≤ fr) (hf2 : fr ≤ 1000000000000) (ht1 : -1000000000000 ≤ tt) (ht2 : tt ≤ 1000000000000) (hdn : dn ≤ 1000000) : (within (x, d) fr tt = none ∧ ∀ w, Calls Try.prog 79 #[.agg #[.int .i64 x, .slice da dn dc], .int .i64 fr, .int .i64 tt] w fun e w' => e = .returned (.tuple #[.agg #[.int .i64 0, .slice none 0 0], .bool false]) ∧ New w w') ∨
   ∃ (y : Int) (l h : Nat), l ≤ h ∧ h ≤ dn ∧ within (x, d) fr tt = some (y, (d.drop l).take (h - l)) ∧ ∀ w, Calls Try.prog 79 #[.agg #[.int .i64 x, .slice da dn dc], .int .i64 fr, .int .i64 tt] w fun e w' => e = .returned (.tuple #[.agg #[.int .i64 y, sliced da l h h 1], .bool true]) ∧ New w w' := by
 by_cases hp : x < fr <;> by_cases hq : tt < x + (dn : Int)
 · by_cases hle : tt ≤ fr
   · exact .inl (withinv_no11 x fr tt da dn dc d hld hdc hx1 hx2 hf1 hf2 ht1 ht2 hdn hp hq hle)
   · exact .inr ⟨_, withinv_yes11 x fr tt da dn dc d hld hdc hx1 hx2 hf1 hf2 ht1 ht2 hdn hp hq (by omega)⟩
 · by_cases hle : (x + (dn : Int)) ≤ fr
   · exact .inl (withinv_no10 x fr tt da dn dc d hld hdc hx1 hx2 hf1 hf2 ht1 ht2 hdn hp hq hle)
   · exact .inr ⟨_, withinv_yes10 x fr tt da dn dc d hld hdc hx1 hx2 hf1 hf2 ht1 ht2 hdn hp hq (by omega)⟩
 · by_cases hle : tt ≤ x
   · exact .inl (withinv_no01 x fr tt da dn dc d hld hdc hx1 hx2 hf1 hf2 ht1 ht2 hdn hp hq hle)
   · exact .inr ⟨_, withinv_yes01 x fr tt da dn dc d hld hdc hx1 hx2 hf1 hf2 ht1 ht2 hdn hp hq (by omega)⟩
 · by_cases hle : (x + (dn : Int)) ≤ x
   · exact .inl (withinv_no00 x fr tt da dn dc d hld hdc hx1 hx2 hf1 hf2 ht1 ht2 hdn hp hq hle)
   · exact .inr ⟨_, withinv_yes00 x fr tt da dn dc d hld hdc hx1 hx2 hf1 hf2 ht1 ht2 hdn hp hq (by omega)⟩
end Go.Proofs.Ythenepdbgeafkaa
