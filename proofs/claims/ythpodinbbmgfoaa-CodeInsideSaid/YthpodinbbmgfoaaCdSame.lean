/-
  The walks of the reference's Bytes and Same.
-/
import Derived.Test.YthpodinbbmgfoaaCdRPut
import Derived.Test.YthpodinbbmgfoaaEq
import Derived.Lib.BufferRead
set_option linter.unusedVariables false
namespace Go
open Go.RowKit Go.Proofs.Nm
/-- A string of bytes. -/
def bstr (l : List Nat) : ByteArray := ⟨(l.map UInt8.ofNat).toArray⟩
theorem ofNat_inj {a b : Nat} (ha : a < 256) (hb : b < 256) (h : UInt8.ofNat a = UInt8.ofNat b) : a = b := by
  have := congrArg UInt8.toNat h
  simp at this; omega
theorem loop_eq (s : ByteArray) (n i : Nat) (r : List UInt8) (h : s.size - i = n) : ByteArray.toList.loop s i r = r.reverse ++ s.data.toList.drop i := by
  induction n generalizing i r with
  | zero =>
    unfold ByteArray.toList.loop
    rw [if_neg (by omega)]
    rw [List.drop_eq_nil_of_le (by have : s.data.toList.length = s.size := by simp
                                   omega)]
    simp
  | succ n ih =>
    unfold ByteArray.toList.loop
    rw [if_pos (by omega), ih (i + 1) _ (by omega)]
    have hi : i < s.data.toList.length := by
      have : s.data.toList.length = s.size := by simp
      omega
    rw [List.drop_eq_getElem_cons hi]
    have : s.get! i = s.data.toList[i] := by
      have hi2 : i < s.data.size := by simpa using hi
      show s.data[i]! = _
      rw [getElem!_pos s.data i hi2]; simp
    rw [this]; simp
theorem toList_eq (s : ByteArray) : s.toList = s.data.toList := by
  unfold ByteArray.toList
  rw [loop_eq s _ 0 [] rfl]; simp
theorem map_inj {l m : List Nat} (hl : goodB l) (hm : goodB m) (h1 : l.map UInt8.ofNat = m.map UInt8.ofNat) : l = m := by
  induction l generalizing m with
  | nil => cases m with
    | nil => rfl
    | cons b m => simp at h1
  | cons a l ih => cases m with
    | nil => simp at h1
    | cons b m =>
      simp only [List.map_cons, List.cons.injEq] at h1
      have e := ofNat_inj (hl a (by simp)) (hm b (by simp)) h1.1
      have e2 := ih (fun x hx => hl x (by simp [hx])) (m := m) (fun x hx => hm x (by simp [hx])) h1.2
      rw [e, e2]
theorem bstr_beq {l m : List Nat} (hl : goodB l) (hm : goodB m) : ((bstr l).toList == (bstr m).toList) = decide (l = m) := by
  rw [toList_eq, toList_eq]
  by_cases h : l = m
  · subst h; simp
  · rw [decide_eq_false h, beq_eq_false_iff_ne]
    intro e
    refine h (map_inj hl hm ?_)
    simpa [bstr] using e
theorem run_str {P : Program} {w : World} {v : Value} {l : List Nat} (src dst e : TypeId) (hs : P.underlying src = some (.slice e)) (he : P.underlying e = some (.int .u8)) (hd : P.underlying dst = some .string) (hrd : Rd w 1 v (cellsB l)) (hg : goodB l) :
    (convert src dst v).run P w = .ok (.string (bstr l)) w := by
  obtain ⟨ao, n, cap, rfl, h1, h2, h3, h4, h5⟩ := hrd
  rw [cellsB_len, Nat.mul_one] at h1
  subst h1
  cases ao with
  | none =>
    obtain ⟨hn, hc⟩ := h4 rfl
    have : l = [] := List.length_eq_zero_iff.1 hn
    subst this
    exact Lib.run_convert_nil_bytes w src dst e cap hs he hd
  | some a =>
    have hh := run_convert_bytes_back (P := P) w src dst e a cap (l.map UInt8.ofNat) hs he hd (fun j hj => by
      rw [List.length_map] at hj
      obtain ⟨b, o, e1, _, e2⟩ := h5 j (by rw [cellsB_len]; exact hj)
      cases e1
      have : Addr.add ⟨b, o, none⟩ j = ⟨b, o + j, none⟩ := by
        unfold Addr.add
        by_cases h0 : j = 0
        · rw [if_pos h0, h0]; rfl
        · rw [if_neg h0]
      rw [this, e2]
      have hx := hg _ (List.getElem_mem hj)
      unfold cellsB
      rw [List.getElem?_map, List.getElem?_eq_getElem hj, List.getElem_map]
      simp [Nat.mod_eq_of_lt hx])
    rw [List.length_map] at hh
    exact hh
end Go
namespace Go.Proofs.Ythpodinbbmgfoaa
open Go.Proofs.Cd Go.Proofs.Nm Go.RowKit
theorem Bytes_any (u v : Value) (l m : List Nat) (w : World) (hu : Rd w 1 u (cellsB l)) (hv : Rd w 1 v (cellsB m)) (hl : goodB l) (hm : goodB m) :
    Calls Try.prog 66 #[u, v] w fun e w' => e = .returned (.bool (decide (l = m))) ∧ w = w' := by
  have k1 := run_str (P := Try.prog) 58 9 5 Try.underlying58 Try.underlying5 Try.underlying9 hu hl
  have k2 := run_str (P := Try.prog) 58 9 5 Try.underlying58 Try.underlying5 Try.underlying9 hv hm
  have HB : Hid (((bstr l).toList == (bstr m).toList) = decide (l = m)) := Lib.hid (bstr_beq hl hm)
  generalize bstr l = s at *
  generalize bstr m = t at *
  clear hl hm hu hv
  go_enter Try.func66, Try.ntmps66
  go_wp2
  go_ret
  exact ⟨ret_b HB.out, rfl⟩
theorem fieldsI : Try.prog.underlying 77 = some (.struct (Try.prog.fieldsOf 77)) := by kernel_rfl
theorem equalIn_I0 (w : World) (d : Nat) (x y : Inst) : (Op.equalIn (d + 2) 77 (.agg #[.int .i64 x.1, .int .u64 x.2]) (.agg #[.int .i64 y.1, .int .u64 y.2])).run Try.prog w = .ok (decide (x = y)) w := by
  have h := run_eqStruct (P := Try.prog) w (d + 1) 77 #[.int .i64 x.1, .int .u64 x.2] #[.int .i64 y.1, .int .u64 y.2] [(3, 0), (22, 1)] [x.1 == y.1, (x.2 : Int) == (y.2 : Int)] fieldsI (by kernel_rfl) (by kernel_rfl) rfl (fun i hi hc => by
    match i, hi with
    | 0, _ => exact ⟨_, _, run_part_cell w _ _ _ _ _ Try.underlying3 rfl rfl, run_part_cell w _ _ _ _ _ Try.underlying3 rfl rfl, run_equalIn_int w d _ _ _ _ _ Try.underlying3⟩
    | 1, _ => exact ⟨_, _, run_part_cell w _ _ _ _ _ Try.underlying22 rfl rfl, run_part_cell w _ _ _ _ _ Try.underlying22 rfl rfl, run_equalIn_int w d _ _ _ _ _ Try.underlying22⟩)
  have e : ([x.1 == y.1, (x.2 : Int) == (y.2 : Int)].all id) = decide (x = y) := by
    rw [Bool.eq_iff_iff]
    obtain ⟨a, b⟩ := x
    obtain ⟨c, d⟩ := y
    simp [Int.ofNat_inj]
  rw [h, e]
theorem equalIn_I (w : World) (x y : Inst) : (Op.equalIn 10000 77 (.agg #[.int .i64 x.1, .int .u64 x.2]) (.agg #[.int .i64 y.1, .int .u64 y.2])).run Try.prog w = .ok (decide (x = y)) w := equalIn_I0 w 9998 x y
theorem Same_any (u v : Value) (l m : List Inst) (w : World) (hu : Rd w 2 u (cellsI l)) (hv : Rd w 2 v (cellsI m)) (hl : ∀ x ∈ l, goodI x) (hm : ∀ x ∈ m, goodI x) :
    Calls Try.prog 67 #[u, v] w fun e w' => e = .returned (.bool (decide (l = m))) ∧ New w w' := by
  obtain ⟨ao, n, cap, rfl, h1, h2, h3, h4, h5⟩ := hu
  obtain ⟨bo, n2, cap2, rfl, k1, k2, k3, k4, k5⟩ := hv
  rw [len_cellsI] at h1 k1
  have HL : Hid (l.length = n) := Lib.hid (by omega)
  have HM : Hid (m.length = n2) := Lib.hid (by omega)
  have hn : n ≤ 9223372036854775807 := by unfold maxLen at h3; omega
  have hn2 : n2 ≤ 9223372036854775807 := by unfold maxLen at k3; omega
  have HC := Lib.hid h5; clear h5
  have HD := Lib.hid k5; clear k5
  clear h1 h2 h3 h4 k1 k2 k3 k4
  have hv := Vars.nil w
  by_cases he : n = n2
  · subst he
    go_enter Try.func67, Try.ntmps67
    go_wp2
    go_loopw [5] (fun i wr => ∃ k : Nat, k ≤ n ∧ i = .int .i64 k ∧ Hid (l.take k = m.take k) ∧ Vars w wr []) (fun i _ => n - (intOf i).toNat)
    case atStart => exact ⟨0, by omega, rfl, Lib.hid rfl, hv⟩
    case round =>
      clear hv
      obtain ⟨k, hk, rfl, hs, hv⟩ := hrel
      rename_i wr
      by_cases hk2 : k < n
      · have hki : (k : Int) < (n : Int) := by omega
        obtain ⟨op, arg, hx⟩ : ∃ op arg, l.getD k (1, 0) = (op, arg) := ⟨_, _, rfl⟩
        obtain ⟨op2, arg2, hy⟩ : ∃ op arg, m.getD k (1, 0) = (op, arg) := ⟨_, _, rfl⟩
        have hkl : k < l.length := by rw [HL.out]; exact hk2
        have hkm : k < m.length := by rw [HM.out]; exact hk2
        have hx' : l[k] = (op, arg) := by rw [← hx]; simp [List.getD, List.getElem?_eq_getElem hkl]
        have hy' : m[k] = (op2, arg2) := by rw [← hy]; simp [List.getD, List.getElem?_eq_getElem hkm]
        obtain ⟨b, o, rfl, hb, hc⟩ := HC.out (k * 2) (by rw [len_cellsI, HL.out]; omega)
        obtain ⟨b', o', e', _, hc2⟩ := HC.out (k * 2 + 1) (by rw [len_cellsI, HL.out]; omega)
        cases e'
        obtain ⟨d, p, rfl, hd, hf⟩ := HD.out (k * 2) (by rw [len_cellsI, HM.out]; omega)
        obtain ⟨d', p', e', _, hf2⟩ := HD.out (k * 2 + 1) (by rw [len_cellsI, HM.out]; omega)
        cases e'
        have D0 : Hid (w.cell? ⟨b, o + k * 2, none⟩ = some (.int .i64 op)) := Lib.hid (by rw [hc, get_op l hkl, hx'])
        have D1 : Hid (w.cell? ⟨b, o + k * 2 + 1, none⟩ = some (.int .u64 arg)) := Lib.hid (by rw [Nat.add_assoc, hc2, get_arg l hkl, hx'])
        have F0 : Hid (w.cell? ⟨d, p + k * 2, none⟩ = some (.int .i64 op2)) := Lib.hid (by rw [hf, get_op m hkm, hy'])
        have F1 : Hid (w.cell? ⟨d, p + k * 2 + 1, none⟩ = some (.int .u64 arg2)) := Lib.hid (by rw [Nat.add_assoc, hf2, get_arg m hkm, hy'])
        have T1 : Hid (l.take (k + 1) = l.take k ++ [(op, arg)]) := Lib.hid (by rw [List.take_succ_eq_append_getElem hkl, hx'])
        have T2 : Hid (m.take (k + 1) = m.take k ++ [(op2, arg2)]) := Lib.hid (by rw [List.take_succ_eq_append_getElem hkm, hy'])
        clear hc hc2 hf hf2 hx hx' hy hy'
        have HQ : ∀ w : World, (Op.equalIn 10000 77 (.agg #[.int .i64 op, .int .u64 arg]) (.agg #[.int .i64 op2, .int .u64 arg2])).run Try.prog w = .ok (decide (((op, arg) : Inst) = (op2, arg2))) w := fun w => equalIn_I w (op, arg) (op2, arg2)
        generalize hq : decide (((op, arg) : Inst) = (op2, arg2)) = q at *
        have HQ2 := Lib.hid hq; clear hq
        go_wp2_with fail
        refine Any.wp_region_walk [⟨[], none⟩, ⟨[], none⟩, ⟨[], none⟩, ⟨[], none⟩, ⟨[], none⟩, ⟨[], none⟩, ⟨[], none⟩, ⟨[], none⟩, ⟨[], none⟩] [.val, .val, .val, .val, .val, .val, .val, .val, .val] (by kernel_rfl) (by kernel_rfl) hv ?_
        simp only [List.length_cons, List.length_nil, Nat.zero_add, Any.someVals]
        iterate 9 apply Exists.intro
        repeat (first
          | (refine Any.E_off rfl ?_; simp only [Act.put, List.setIfInBounds_toArray, List.set_cons_succ, List.set_cons_zero])
          | (apply Any.E_val rfl rfl rfl rfl
             case h =>
               intro E' hA K hK
               first
                 | ((with_reducible refine Any.at_qload (T := 77) ?_); refine Any.q_old2 rfl hb _ Try.underlying77 rfl infoI _ _ D0.out D1.out ?_; refine hK _ ?_; rfl)
                 | ((with_reducible refine Any.at_qload (T := 77) ?_); refine Any.q_old2 rfl hd _ Try.underlying77 rfl infoI _ _ F0.out F1.out ?_; refine hK _ ?_; rfl)
                 | (go_big_quiet_op; first
                   | (refine hK _ ?_; rfl)
                   | (refine ⟨_, fun _ _ => rfl, ?_⟩; refine hK _ ?_; rfl)
                   | (apply Exists.intro; refine ⟨fun w1 hw1 => ?_, ?_⟩; · (first
                       | fail)
                      refine hK _ ?_; rfl))
             case hD => rfl
             simp only [Act.put, List.setIfInBounds_toArray, List.set_cons_succ, List.set_cons_zero])
          | ((with_reducible refine Any.at_ealloc ?_); refine Any.E_lay rfl rfl rfl (fun _ => rfl) ?_; intro B; simp only [Act.put, List.setIfInBounds_toArray, List.set_cons_succ, List.set_cons_zero]))
        refine Any.E_nil ?_
        intro w9 hE9
        replace hv : Vars w w9 [] := hE9.vars [] (by decide)
        clear hE9
        cases q
        · go_wp2
          go_ret
          refine ⟨ret_b (decide_eq_false (fun e => ?_)).symm, hv.below⟩
          have h1 := of_decide_eq_false HQ2.out
          have t1 := T1.out
          have t2 := T2.out
          rw [e] at t1
          rw [t1] at t2
          exact h1 (List.append_inj_right' t2 rfl |> List.cons.inj |>.1)
        · go_wp2
          go_roundw
          case rel => exact ⟨k + 1, by omega, by go_num, Lib.hid (by rw [T1.out, T2.out, hs.out, of_decide_eq_true HQ2.out]), hv⟩
          case measure => simp [intOf]; omega
        all_goals exact undef
      · have hki : ¬ (k : Int) < (n : Int) := by omega
        go_wp2
        go_ret
        exact ⟨ret_b (decide_eq_true (by have := hs.out; rwa [List.take_of_length_le (by rw [HL.out]; omega), List.take_of_length_le (by rw [HM.out]; omega)] at this)).symm, hv.below⟩
  · have hei : ¬ (n : Int) = (n2 : Int) := by omega
    go_enter Try.func67, Try.ntmps67
    go_wp2
    go_ret
    exact ⟨ret_b (decide_eq_false (fun e => he (by rw [← HL.out, ← HM.out, e]))).symm, Below.refl _ _⟩
end Go.Proofs.Ythpodinbbmgfoaa
