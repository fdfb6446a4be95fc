/-
  Which queues may be: what Check leans on.
-/
import Derived.Test.YtcelehhaggoijaaGreatQuSort
set_option linter.unusedVariables false
set_option linter.unusedSimpArgs false
namespace Go.Proofs.YtcelehhaggoijaaGreat
open Go.Proofs.Qu Go.Proofs.Nm Go.RowKit Go.Proofs
theorem IClone_isnil (a : Option Addr) (l c : Nat) (w : World) : (binOp .eql 22 (.slice a l c) (.slice none 0 0)).run Tryz.prog w = .ok (.bool a.isNone) w := by
  simp [binOp, Sem.run_bind, run_equal_slice_nil w 22 _ a l c Tryz.underlying22]
set_option maxRecDepth 100000 in
set_option maxHeartbeats 4000000 in
theorem IClone_M {w0 w : World} {L : List (Nat × Array Value)} {R : List (Nat × Value × List Value)} {ad : Addr} {n cap : Nat} {c : List Value} (hv0 : Mem w0 w L R) (hm : (1, .slice (some ad) n cap, c) ∈ R) (h1 : ∀ x ∈ c, x.oneCell' = true) (hn : n ≤ 1000000) :
    Calls Tryz.prog 45 #[.slice (some ad) n cap] w fun e w' => ∃ b c3 z, e = .returned (.slice (some ⟨b, 0, none⟩) n c3) ∧ AppRow (.slice (some ⟨b, 0, none⟩) n c3) 1 c (b, z) ∧ Mem w0 w' ((b, z) :: L) R := by
  have hv := hv0
  have hl : c.length = n * 1 := by
    obtain ⟨_, _, _, e, g, _⟩ := hv.rd hm
    cases e; exact g
  have HM := Lib.hid hm
  have H1 := Lib.hid h1
  have HA1 : Hid ((([] : List Value).length + c.length) / 1 ≤ maxLen) := Lib.hid (by rw [hl]; simp only [List.length_nil]; unfold maxLen; omega)
  have HA2 : Hid ((([] : List Value).length + c.length) / 1 * 8 ≤ 140737488355328) := Lib.hid (by rw [hl]; simp only [List.length_nil]; omega)
  have HL := Lib.hid hl
  have hnil := IClone_isnil
  clear hl h1 hn hm hv0
  go_enter Tryz.func45, Tryz.ntmps45
  go_wp2_with (first
    | ((with_reducible refine at_append (t := 22) ?_); replace hv := hv.madeAt ⟨rfl, made_alloc _ #[] 3⟩; refine wl_apph rfl rfl hv (Any.AppRow.zero _ 1) (.int .i64 0) 8 Tryz.underlying22 infoIz rfl (by decide) rfl (hv.rd HM.out) H1.out HA1.out HA2.out ?_; intro v3 w3 x3 hrow hv1; replace hv := hv1; clear hv1; rw [List.nil_append] at hrow; obtain ⟨x3b, x3z⟩ := x3; have hq := hrow; obtain ⟨n3, c3, rfl, g3, g4⟩ := hq; replace g3 := Lib.hid g3; clear g4; replace hrow := Lib.hid hrow))
  go_ret
  have hn3 : n3 = n := by have h9 := g3.out; rw [HL.out] at h9; omega
  subst hn3
  exact ⟨x3b, c3, rfl, x3z, hrow.out, hv⟩
theorem IClone_nil (w : World) : Calls Tryz.prog 45 #[.slice none 0 0] w fun e w' => e = .returned (.slice none 0 0) ∧ w = w' := by
  have hnil := IClone_isnil
  go_enter Tryz.func45, Tryz.ntmps45
  go_wp2
  go_ret
  exact ⟨rfl, rfl⟩
theorem Check1_ok (x y : Int) (h : -100000 ≤ x - y ∧ x - y ≤ 100000) (w : World) : Calls Tryz.prog 58 #[.int .i64 x, .int .i64 y] w fun e w' => e = .returned (.int .i64 (x - y)) ∧ New w w' := by
  have hv := Mem.nil w
  have q : IntKind.i64.wrap (x - y) = x - y := IntWalk.i64_in _ (by omega)
  clear h
  go_enter Tryz.func58, Tryz.ntmps58
  go_wp2
  go_ret
  exact ⟨rfl, hv.below⟩
set_option maxRecDepth 100000 in
set_option maxHeartbeats 4000000 in
theorem IsSorted_ok (u : Value) (l : List Nat) (hl : l.length ≤ 100) (hs : l.Pairwise (· ≤ ·)) (hm : ∀ x ∈ l, x ≤ 1000) (w : World) (hu : Rd w 1 u (intsI l)) : Calls Tryz.prog 57 #[u, .func (.func 58) #[] #[]] w fun e w' => e = .returned (.bool true) ∧ New w w' := by
  have hv := (Mem.nil w).old hu
  obtain ⟨ua, n, uc, rfl, g1, _⟩ := id hu
  rw [intsI_len, Nat.mul_one] at g1
  have HL := Lib.hid g1
  have HN : Hid (n ≤ 100) := Lib.hid (by omega)
  have HS := Lib.hid hs
  have HMX := Lib.hid hm
  have q1 : IntKind.i64.wrap ((n : Int) - 1) = (n : Int) - 1 := IntWalk.i64_in _ (by omega)
  clear hu g1 hl hs hm
  go_enter Tryz.func57, Tryz.ntmps57
  go_wp2
  go_loopw [5] (fun kv wr => ∃ k : Nat, k ≤ n ∧ kv = .int .i64 ((k : Int) - 1) ∧ Mem w wr [] [(1, .slice ua n uc, intsI l)]) (fun kv _ => (intOf kv + 1).toNat)
  case atStart => exact ⟨n, Nat.le_refl _, rfl, hv⟩
  case round =>
    clear hv
    obtain ⟨k2, hk0, rfl, hv⟩ := hrel
    by_cases hk : 2 ≤ k2
    · obtain ⟨k, rfl⟩ : ∃ k, k2 = k + 2 := ⟨k2 - 2, by omega⟩
      have hk1 : k + 1 < l.length := by rw [HL.out]; omega
      obtain ⟨x, hx⟩ : ∃ x, l[k + 1] = x := ⟨_, rfl⟩
      obtain ⟨y, hy⟩ : ∃ y, l[k] = y := ⟨_, rfl⟩
      have hle : y ≤ x := by rw [← hx, ← hy]; exact List.pairwise_iff_getElem.1 HS.out k (k + 1) (by omega) hk1 (by omega)
      have hx9 := HMX.out x (by rw [← hx]; exact List.getElem_mem _)
      have hy9 := HMX.out y (by rw [← hy]; exact List.getElem_mem _)
      have HX : Hid ((intsI l)[k + 1]? = some (.int .i64 (x : Nat))) := Lib.hid (by unfold intsI; rw [List.getElem?_map, List.getElem?_eq_getElem hk1, hx]; rfl)
      have HY : Hid ((intsI l)[k]? = some (.int .i64 (y : Nat))) := Lib.hid (by unfold intsI; rw [List.getElem?_map, List.getElem?_eq_getElem (by omega), hy]; rfl)
      have HCK : Hid (∀ w, Calls Tryz.prog 58 (#[.int .i64 (x : Nat), .int .i64 (y : Nat)] ++ #[]) w fun e w' => e = .returned (.int .i64 ((x : Int) - (y : Int))) ∧ New w w') := Lib.hid (fun w => Check1_ok x y (by omega) w)
      obtain ⟨b, o, _, _, e, hq⟩ := (hv.rd Mem.z).some (by rw [intsI_len]; omega)
      clear hq
      cases e
      have HPA := Lib.hid (Any.rd_start hv Mem.z)
      have hkn : (k : Int) + 2 ≤ (n : Int) := by omega
      have hnb : (n : Int) ≤ 100 := by have := HN.out; omega
      have y0 : (0 : Int) < ((k + 2 : Nat) : Int) - 1 := by omega
      have e1 : ((k + 2 : Nat) : Int) - 1 = ((k + 1 : Nat) : Int) := by omega
      have e2 : ((k + 1 : Nat) : Int) - 1 = (k : Int) := by omega
      have q2 : IntKind.i64.wrap (((k + 1 : Nat) : Int) - 1) = (k : Int) := by rw [IntWalk.i64_in _ (by omega)]; omega
      have y2 : decide ((x : Int) - (y : Int) < 0) = false := decide_eq_false (by omega)
      have y3 : ¬ ((x : Int) - (y : Int) < 0) := by omega
      rw [e1]
      clear hx hy hk hk1 hle hx9 hy9 e1
      go_wp2
      refine Any.wp_region_walk [⟨[], none⟩, ⟨[], none⟩, ⟨[], none⟩, ⟨[], none⟩, ⟨[], none⟩, ⟨[], none⟩, ⟨[], none⟩, ⟨[], none⟩, ⟨[], none⟩, ⟨[], none⟩, ⟨[], none⟩, ⟨[], none⟩] [.val, .val, .val, .val, .val, .val, .val, .val, .val, .val, .val, .val] (by kernel_rfl) (by kernel_rfl) hv.vars ?_
      simp only [List.length_cons, List.length_nil, Nat.zero_add, Any.someVals]
      iterate 12 apply Exists.intro
      repeat (first
        | (refine Any.E_off rfl ?_; simp only [Act.put, List.setIfInBounds_toArray, List.set_cons_succ, List.set_cons_zero])
        | (apply Any.E_pureq rfl rfl rfl
           case h => intro K hK; go_big_quiet_op; (refine hK _ ?_; rfl)
           case hr => exact fun _ => rfl
           simp only [Act.put, List.setIfInBounds_toArray, List.set_cons_succ, List.set_cons_zero])
        | (apply Any.E_val rfl rfl rfl rfl
           case h =>
             intro E' hA K hK
             first
               | ((with_reducible refine Any.at_qload (T := 3) ?_); refine Any.q_rd HPA.out (k + 1) rfl _ Tryz.underlying3 rfl (.int .i64 (x : Nat)) HX.out ?_; refine hK _ ?_; rfl)
               | ((with_reducible refine Any.at_qload (T := 3) ?_); refine Any.q_rd HPA.out (k) rfl _ Tryz.underlying3 rfl (.int .i64 (y : Nat)) HY.out ?_; refine hK _ ?_; rfl)
               | ((with_reducible refine Any.at_qcall ?_); refine Any.q_callv (Go.Proofs.enters_of Tryz.func58 (by kernel_rfl) rfl) rfl [.int .i64 (x : Nat), .int .i64 (y : Nat)] rfl (fun w1 hw1 => Any.calls_VE (HCK.out w1) hw1) ?_; refine hK _ ?_; rfl)
               | (go_big_quiet_op; first
                 | (refine hK _ ?_; rfl)
                 | (refine ⟨_, fun _ _ => rfl, ?_⟩; refine hK _ ?_; rfl)
                 | (apply Exists.intro; refine ⟨fun w1 hw1 => ?_, ?_⟩; · (first
                     | fail)
                    refine hK _ ?_; rfl))
           case hD => rfl
           simp only [Act.put, List.setIfInBounds_toArray, List.set_cons_succ, List.set_cons_zero])
        | ((with_reducible refine Any.at_ealloc ?_); refine Any.E_lay rfl rfl rfl (fun _ => rfl) ?_; intro B; simp only [Act.put, List.setIfInBounds_toArray, List.set_cons_succ, List.set_cons_zero]))
      try any_goals exact undef
      refine Any.E_nil ?_
      intro w9 hE9
      replace hv : Mem w w9 [] _ := hE9.mem hv [] (by decide)
      clear hE9
      go_wp2
      go_roundw
      case rel => exact ⟨k + 1, by omega, by go_num, hv⟩
      case measure => simp [intOf]; omega
    · have y0 : ¬ (0 : Int) < (k2 : Int) - 1 := by omega
      clear hk
      go_wp2
      go_ret
      exact ⟨rfl, hv.below⟩
set_option maxRecDepth 100000 in
set_option maxHeartbeats 4000000 in
theorem chained_w (h rm db do_ dn dc : Nat) (ds : List Nat) (h0 : ds[0]? = some h) (hrm : rm ≤ 2147483647) (w : World) (hr : Rd w 1 (.slice (some ⟨db, do_, none⟩) dn dc) (intsI ds)) : Calls Tryz.prog 59 #[.agg #[.int .i64 (h : Nat), .slice (some ⟨db, do_, none⟩) dn dc, .int .i64 (rm : Nat)]] w fun e w' => e = .returned (.bool true) ∧ New w w' := by
  have hv := (Mem.nil w).old hr
  have hdn : ds.length = dn := by
    obtain ⟨_, _, _, e, g, _⟩ := hr
    cases e
    rw [intsI_len] at g; omega
  have hd0 : 0 < dn := by rw [← hdn]; exact (List.getElem?_eq_some_iff.1 h0).1
  have HX : Hid ((intsI ds)[0]? = some (.int .i64 (h : Nat))) := Lib.hid (by unfold intsI; rw [List.getElem?_map, h0]; rfl)
  have y1 : decide ((0 : Int) < (dn : Int)) = true := decide_eq_true (by omega)
  have z1 : decide (0 < dn) = true := decide_eq_true hd0
  have x1 : (0 : Int) < (dn : Int) := by omega
  have y2 : ((h : Int) == (h : Int)) = true := by simp
  have y3 : decide ((0 : Int) ≤ (rm : Int)) = true := decide_eq_true (by omega)
  have y4 : decide ((rm : Int) ≤ 2147483647) = true := decide_eq_true (by omega)
  have z4 : decide (rm ≤ 2147483647) = true := decide_eq_true hrm
  clear hr hdn h0 hrm
  go_enter Tryz.func59, Tryz.ntmps59
  go_wp2_with (first
    | ((with_reducible refine at_box (T := 115) (dst := some 1) ?_); refine wl_newb rfl #[.int .i64 (h : Nat), .slice (some ⟨db, do_, none⟩) dn dc, .int .i64 (rm : Nat)] 115 (fun _ => rfl) ?_; intro b1 w2 hm2; replace hv := hv.madeAt hm2; clear hm2))
  have HPD := Lib.hid (Any.rd_start hv Mem.z)
  refine Any.wp_region_walk [⟨[], none⟩, ⟨[1000], none⟩, ⟨[], none⟩, ⟨[], none⟩, ⟨[], none⟩, ⟨[], none⟩, ⟨[1000], none⟩, ⟨[], none⟩, ⟨[1000], none⟩, ⟨[], none⟩, ⟨[], none⟩, ⟨[], none⟩, ⟨[], none⟩, ⟨[], none⟩, ⟨[], none⟩, ⟨[1000], none⟩, ⟨[], none⟩, ⟨[], none⟩, ⟨[], none⟩, ⟨[], none⟩, ⟨[1000], none⟩, ⟨[], none⟩, ⟨[], none⟩, ⟨[], none⟩] [.val, .val, .val, .val, .val, .val, .val, .val, .val, .val, .val, .val, .val, .val, .val, .val, .val, .val, .val, .val, .val, .val, .val, .val] (by kernel_rfl) (by kernel_rfl) hv.vars ?_
  simp only [List.length_cons, List.length_nil, Nat.zero_add, Any.someVals]
  iterate 24 apply Exists.intro
  repeat (first
    | (refine Any.E_off rfl ?_; simp only [Act.put, List.setIfInBounds_toArray, List.set_cons_succ, List.set_cons_zero])
    | (apply Any.E_pureq rfl rfl rfl
       case h => intro K hK; go_big_quiet_op; (refine hK _ ?_; rfl)
       case hr => exact fun _ => rfl
       simp only [Act.put, List.setIfInBounds_toArray, List.set_cons_succ, List.set_cons_zero])
    | (apply Any.E_val rfl rfl rfl rfl
       case h =>
         intro E' hA K hK
         first
           | ((with_reducible refine Any.at_qload (T := 22) ?_); refine Any.q_ldc 1000 hA (by decide) rfl rfl _ Tryz.underlying22 rfl (.slice (some ⟨db, do_, none⟩) dn dc) rfl ?_; refine hK _ ?_; rfl)
           | ((with_reducible refine Any.at_qload (T := 3) ?_); refine Any.q_rd HPD.out (0) rfl _ Tryz.underlying3 rfl (.int .i64 (h : Nat)) HX.out ?_; refine hK _ ?_; rfl)
           | ((with_reducible refine Any.at_qload (T := 3) ?_); refine Any.q_ldc 1000 hA (by decide) rfl rfl _ Tryz.underlying3 rfl (.int .i64 (h : Nat)) rfl ?_; refine hK _ ?_; rfl)
           | ((with_reducible refine Any.at_qload (T := 3) ?_); refine Any.q_ldc 1000 hA (by decide) rfl rfl _ Tryz.underlying3 rfl (.int .i64 (rm : Nat)) rfl ?_; refine hK _ ?_; rfl)
           | (go_big_quiet_op; first
             | (refine hK _ ?_; rfl)
             | (refine ⟨_, fun _ _ => rfl, ?_⟩; refine hK _ ?_; rfl)
             | (apply Exists.intro; refine ⟨fun w1 hw1 => ?_, ?_⟩; · (first
                 | fail)
                refine hK _ ?_; rfl))
       case hD => rfl
       simp only [Act.put, List.setIfInBounds_toArray, List.set_cons_succ, List.set_cons_zero])
    | ((with_reducible refine Any.at_ealloc ?_); refine Any.E_lay rfl rfl rfl (fun _ => rfl) ?_; intro B; simp only [Act.put, List.setIfInBounds_toArray, List.set_cons_succ, List.set_cons_zero]))
  try any_goals exact undef
  refine Any.E_nil ?_
  intro w9 hE9
  replace hv : Mem w w9 [(b1, #[.int .i64 (h : Nat), .slice (some ⟨db, do_, none⟩) dn dc, .int .i64 (rm : Nat)])] _ := hE9.mem hv [1000] (by decide)
  clear hE9
  go_wp2
  go_ret
  exact ⟨rfl, hv.below⟩
end Go.Proofs.YtcelehhaggoijaaGreat
