/-
  Parts alike, numbers alike: the reference says so.
-/
import Derived.Test.YtcelehhaggoijaaGreatQuNext
set_option linter.unusedVariables false
set_option linter.unusedSimpArgs false
namespace Go.Proofs.Qu
open Go Go.RowKit Go.Proofs.Nm
theorem part_flat {k : Nat} {α : Type} {en : α → List Value} (hen : ∀ x, (en x).length = k) : ∀ (l : List α) (i : Nat) (h : i < l.length), ((l.flatMap en).drop (i * k)).take k = en l[i] := by
  intro l
  induction l with
  | nil => intro i h; exact (Nat.not_lt_zero _ h).elim
  | cons x r ih =>
    intro i h
    cases i with
    | zero => rw [Nat.zero_mul, List.drop_zero, List.flatMap_cons, List.take_append_of_le_length (by rw [hen]; exact Nat.le_refl _), List.take_of_length_le (by rw [hen]; exact Nat.le_refl _)]; rfl
    | succ i =>
      have e : (i + 1) * k = (en x).length + i * k := by rw [hen, Nat.add_mul, Nat.one_mul, Nat.add_comm]
      rw [List.flatMap_cons, e, List.drop_append]
      rw [List.getElem_cons_succ]
      rw [List.drop_eq_nil_of_le (Nat.le_add_right _ _), List.nil_append, Nat.add_sub_cancel_left]
      exact ih i (by simpa using h)
theorem len_rdPt {w : World} {a : Option Addr} {n c : Nat} {l : List Pt} (h : Rd w 3 (.slice a n c) (cellsPt l)) : l.length = n := by
  obtain ⟨_, _, _, e, g, _⟩ := h
  cases e
  rw [cellsPt_len] at g; omega
end Go.Proofs.Qu
namespace Go.Proofs.YtcelehhaggoijaaGreat
open Go.Proofs.Qu Go.Proofs.Nm Go.RowKit Go.Proofs
theorem fieldsB : Tryz.prog.underlying 39 = some (.struct (Tryz.prog.fieldsOf 39)) := by kernel_rfl
theorem run_equalIn_boolT (w : World) (d : Nat) (b : Bool) : (Op.equalIn (d + 1) 4 (.bool b) (.bool b)).run Tryz.prog w = .ok true w := by
  simp [Op.equalIn, run_underlying Tryz.underlying4]
theorem equalIn_B0 (w : World) (d : Nat) (x1 x2 : Nat) (x3 : Bool) : (Op.equalIn (d + 2) 39 (.agg #[.int .i64 (x1 : Nat), .int .i64 (x2 : Nat), .bool x3]) (.agg #[.int .i64 (x1 : Nat), .int .i64 (x2 : Nat), .bool x3])).run Tryz.prog w = .ok true w := by
  have h := run_eqStruct (P := Tryz.prog) w (d + 1) 39 #[.int .i64 (x1 : Nat), .int .i64 (x2 : Nat), .bool x3] #[.int .i64 (x1 : Nat), .int .i64 (x2 : Nat), .bool x3] [(3, 0), (3, 1), (4, 2)] [(x1 : Int) == (x1 : Int), (x2 : Int) == (x2 : Int), true] fieldsB (by kernel_rfl) (by kernel_rfl) rfl (fun i hi hc => by
    match i, hi with
    | 0, _ => exact ⟨_, _, run_part_cell w _ _ _ _ _ Tryz.underlying3 rfl rfl, run_part_cell w _ _ _ _ _ Tryz.underlying3 rfl rfl, run_equalIn_int w d _ _ _ _ _ Tryz.underlying3⟩
    | 1, _ => exact ⟨_, _, run_part_cell w _ _ _ _ _ Tryz.underlying3 rfl rfl, run_part_cell w _ _ _ _ _ Tryz.underlying3 rfl rfl, run_equalIn_int w d _ _ _ _ _ Tryz.underlying3⟩
    | 2, _ => exact ⟨_, _, run_part_cell w _ _ _ _ _ Tryz.underlying4 rfl rfl, run_part_cell w _ _ _ _ _ Tryz.underlying4 rfl rfl, run_equalIn_boolT w d x3⟩)
  rw [h]
  simp
theorem equalIn_B (w : World) (x1 x2 : Nat) (x3 : Bool) : (Op.equalIn 10000 39 (.agg #[.int .i64 (x1 : Nat), .int .i64 (x2 : Nat), .bool x3]) (.agg #[.int .i64 (x1 : Nat), .int .i64 (x2 : Nat), .bool x3])).run Tryz.prog w = .ok true w := equalIn_B0 w 9998 x1 x2 x3
set_option maxRecDepth 100000 in
set_option maxHeartbeats 4000000 in
theorem Bufs_alike (u v : Value) (l : List Pt) (hl : l.length ≤ 1000) (w : World) (hu : Rd w 3 u (cellsPt l)) (hv0 : Rd w 3 v (cellsPt l)) : Calls Tryz.prog 37 #[u, v] w fun e w' => e = .returned (.bool true) ∧ New w w' := by
  have hv := ((Mem.nil w).old hv0).old hu
  obtain ⟨ua, n, uc, rfl, _⟩ := id hu
  obtain ⟨va, m, vc, rfl, _⟩ := id hv0
  have g1 := len_rdPt hu
  have g2 := len_rdPt hv0
  obtain rfl : n = m := by omega
  have HL : Hid (l.length = n) := Lib.hid (by omega)
  have HN : Hid (n ≤ 1000) := Lib.hid (by omega)
  have y1 : ((n : Int) != (n : Int)) = false := by simp
  clear hu hv0 g1 g2 hl
  go_enter Tryz.func37, Tryz.ntmps37
  go_wp2
  go_loopw [5] (fun kv wr => ∃ k : Nat, k ≤ n ∧ kv = .int .i64 (k : Nat) ∧ Mem w wr [] [(3, .slice ua n uc, cellsPt l), (3, .slice va n vc, cellsPt l)]) (fun kv _ => n - (intOf kv).toNat)
  case atStart => exact ⟨0, Nat.zero_le _, rfl, hv⟩
  case round =>
    clear hv
    obtain ⟨k, hk0, rfl, hv⟩ := hrel
    by_cases hk : k < n
    · have hki : (k : Int) < (n : Int) := by omega
      have hkb : (k : Int) ≤ 1000 := by have := HN.out; omega
      have hkl : k < l.length := by rw [HL.out]; exact hk
      obtain ⟨⟨x1, x2, x3⟩, hz⟩ : ∃ z, l[k] = z := ⟨_, rfl⟩
      have HK : Hid (((cellsPt l).drop (k * 3)).take 3 = [.int .i64 (x1 : Nat), .int .i64 (x2 : Nat), .bool x3]) := Lib.hid (by
        have := part_flat (k := 3) (en := encP) (fun _ => rfl) l k hkl
        rw [hz] at this; exact this)
      obtain ⟨b, o, _, _, e, hq⟩ := (hv.rd Mem.z).some (by rw [cellsPt_len]; omega)
      clear hq
      cases e
      obtain ⟨b2, o2, _, _, e, hq⟩ := (hv.rd (Mem.s Mem.z)).some (by rw [cellsPt_len]; omega)
      clear hq
      cases e
      have HPA := Lib.hid (Any.rd_start hv Mem.z)
      have HPB := Lib.hid (Any.rd_start hv (Mem.s Mem.z))
      have HKN := Lib.hid hk
      have HQ : ∀ w : World, (Op.equalIn 10000 39 (.agg #[.int .i64 (x1 : Nat), .int .i64 (x2 : Nat), .bool x3]) (.agg #[.int .i64 (x1 : Nat), .int .i64 (x2 : Nat), .bool x3])).run Tryz.prog w = .ok true w := fun w => equalIn_B w x1 x2 x3
      clear hz hkl hk hk0
      go_wp2
      refine Any.wp_region_walk [⟨[], none⟩, ⟨[], none⟩, ⟨[], none⟩, ⟨[], none⟩, ⟨[], none⟩, ⟨[], none⟩, ⟨[], none⟩, ⟨[], none⟩, ⟨[], none⟩] [.val, .val, .val, .val, .val, .val, .val, .val, .val] (by kernel_rfl) (by kernel_rfl) hv.vars ?_
      simp only [List.length_cons, List.length_nil, Nat.zero_add, Any.someVals]
      iterate 9 apply Exists.intro
      repeat (first
        | (refine Any.E_off rfl ?_; simp only [Act.put, List.setIfInBounds_toArray, List.set_cons_succ, List.set_cons_zero])
        | (apply Any.E_pureq rfl rfl rfl
           case h => intro K hK; go_big_quiet_op; (refine hK _ ?_; rfl)
           case hr => exact fun _ => rfl
           simp only [Act.put, List.setIfInBounds_toArray, List.set_cons_succ, List.set_cons_zero])
        | (apply Any.E_val rfl rfl rfl rfl
           case h =>
             intro E' hA K hK
             first
               | ((with_reducible refine Any.at_qload (T := 39) ?_); refine Any.q_rdv HPA.out (k * 3) rfl 3 _ Tryz.underlying39 rfl infoB3 (by decide) #[.int .i64 (x1 : Nat), .int .i64 (x2 : Nat), .bool x3] HK.out rfl ?_; refine hK _ ?_; rfl)
               | ((with_reducible refine Any.at_qload (T := 39) ?_); refine Any.q_rdv HPB.out (k * 3) rfl 3 _ Tryz.underlying39 rfl infoB3 (by decide) #[.int .i64 (x1 : Nat), .int .i64 (x2 : Nat), .bool x3] HK.out rfl ?_; refine hK _ ?_; rfl)
               | (go_big_quiet_op; first
                 | (refine hK _ ?_; rfl)
                 | (refine ⟨_, fun _ _ => rfl, ?_⟩; refine hK _ ?_; rfl)
                 | (apply Exists.intro; refine ⟨fun w1 hw1 => ?_, ?_⟩; · (first
                     | fail)
                    refine hK _ ?_; rfl))
           case hD => rfl
           simp only [Act.put, List.setIfInBounds_toArray, List.set_cons_succ, List.set_cons_zero])
        | ((with_reducible refine Any.at_ealloc ?_); refine Any.E_lay rfl rfl rfl (fun _ => rfl) ?_; intro B; simp only [Act.put, List.setIfInBounds_toArray, List.set_cons_succ, List.set_cons_zero]))
      try any_goals exact undef
      refine Any.E_nil ?_
      intro w9 hE9
      replace hv : Mem w w9 [] _ := hE9.mem hv [] (by decide)
      clear hE9
      go_wp2
      have hkn := HKN.out
      go_roundw
      case rel => exact ⟨k + 1, by omega, by go_num, hv⟩
      case measure => simp [intOf]; omega
    · have hki : ¬ (k : Int) < (n : Int) := by omega
      clear hk hk0
      go_wp2
      go_ret
      exact ⟨rfl, hv.below⟩
end Go.Proofs.YtcelehhaggoijaaGreat
