import Derived.Test.YtcelehhaggoijaaGreatQuLaw
section
/-
  The reference's rings: what returns and offers.
-/
set_option linter.unusedVariables false
set_option linter.unusedSimpArgs false
namespace Go.Proofs.Qu
open Go Go.RowKit Go.Proofs.Nm
theorem putB_nil (M : List Nat) (p : Nat) : putB M p [] = M := by
  unfold putB
  rw [List.append_nil, List.length_nil, Nat.add_zero, List.take_append_drop]
theorem putB_snoc {M D : List Nat} {p x : Nat} (h : p + D.length < M.length) : putB M p (D ++ [x]) = (putB M p D).set (p + D.length) x := by
  apply List.ext_getElem?
  intro i
  rw [List.getElem?_set, get_putB (by rw [List.length_append]; simp; omega), get_putB (by omega), putB_len (by omega), List.length_append, List.length_singleton]
  by_cases c1 : i < p
  · rw [if_pos c1, if_neg (by omega), if_pos c1]
  · rw [if_neg c1]
    by_cases c2 : i = p + D.length
    · subst c2
      rw [if_pos (show p + D.length < p + (D.length + 1) from by omega), if_pos rfl, if_pos h, Nat.add_sub_cancel_left, List.getElem?_append_right (Nat.le_refl _), Nat.sub_self]; rfl
    · rw [if_neg (show ¬ p + D.length = i from fun e => c2 e.symm), if_neg c1]
      by_cases c3 : i < p + D.length
      · rw [if_pos (show i < p + (D.length + 1) from by omega), if_pos c3, List.getElem?_append_left (by omega)]
      · rw [if_neg (show ¬ i < p + (D.length + 1) from by omega), if_neg c3]
theorem row_set {b n cap : Nat} {z : Array Value} {M : List Nat} (h : AppRow (.slice (some ⟨b, 0, none⟩) n cap) 1 (cellsB M) (b, z)) {j : Nat} (hj : j < M.length) (x : Nat) : AppRow (.slice (some ⟨b, 0, none⟩) n cap) 1 (cellsB (M.set j x)) (b, z.setIfInBounds j (.int .u8 (x : Nat))) := by
  obtain ⟨n', cap', e, h1, h2, h3, h4, h5⟩ := h
  cases e
  rw [Nat.mul_one, cellsB_len] at h1
  simp only at h4 h5
  rw [Nat.mul_one] at h4 h5
  refine ⟨n, cap, rfl, by rw [cellsB_len, List.length_set, Nat.mul_one]; exact h1, h2, h3, ?_, ?_⟩
  · show (z.setIfInBounds j _).size = _
    rw [Array.size_setIfInBounds, Nat.mul_one]; exact h4
  · show (z.setIfInBounds j _).toList.take _ = _
    rw [Nat.mul_one, Array.toList_setIfInBounds, List.take_set, h5]
    unfold cellsB
    rw [List.map_set]
theorem leB_mod (n : Nat) : leB n 2 = leB (n % 65536) 2 := by
  unfold leB
  apply List.map_congr_left
  intro i hi
  have hi := List.mem_range.1 hi
  rcases (show i = 0 ∨ i = 1 from by omega) with rfl | rfl
  · show n / 1 % 256 = n % 65536 / 1 % 256
    omega
  · show n / 256 ^ 1 % 256 = n % 65536 / 256 ^ 1 % 256
    rw [Nat.pow_one]; omega
theorem wrap8 {n : Nat} (h : n < 256) : IntKind.u8.wrap (n : Int) = (n : Int) := by
  have e : IntKind.u8.wrap (n : Int) = (n : Int) % 256 := rfl
  rw [e]; omega
end Go.Proofs.Qu
namespace Go.Proofs.YtcelehhaggoijaaGreat
open Go.Proofs.Qu Go.Proofs.Nm Go.RowKit Go.Proofs
set_option maxRecDepth 100000 in
set_option maxHeartbeats 4000000 in
theorem Rright_ok (n : Nat) (h : okN n) (w : World) : Calls Tryz.prog 99 #[.int .i64 (n : Nat)] w fun e w' => e = .returned (.bool true) ∧ New w w' := by
  have hv := Mem.nil w
  rcases h with rfl | rfl | rfl | rfl | rfl
  all_goals
    go_enter Tryz.func99, Tryz.ntmps99
    go_wp2
    go_ret
    exact ⟨rfl, hv.below⟩
set_option maxRecDepth 100000 in
set_option maxHeartbeats 4000000 in
theorem Rsecond_ok (n : Nat) (h : okN n) (w : World) : Calls Tryz.prog 50 #[.int .i64 (n : Nat)] w fun e w' => e = .returned (.int .i64 (backN n : Nat)) ∧ New w w' := by
  have hv := Mem.nil w
  rcases h with rfl | rfl | rfl | rfl | rfl
  all_goals
    go_enter Tryz.func50, Tryz.ntmps50
    go_wp2
    go_ret
    exact ⟨rfl, hv.below⟩
set_option maxRecDepth 100000 in
set_option maxHeartbeats 4000000 in
theorem RSize_ok (n : Nat) (h : okN n) (w : World) : Calls Tryz.prog 101 #[.int .i64 (n : Nat)] w fun e w' => e = .returned (.int .i64 (sizeN n : Nat)) ∧ New w w' := by
  have hv := Mem.nil w
  obtain ⟨bk, hbk⟩ : ∃ bk, backN n = bk := ⟨_, rfl⟩
  have kB : ∀ w, Calls Tryz.prog 50 #[.int .i64 (n : Nat)] w fun e w' => e = .returned (.int .i64 (bk : Nat)) ∧ New w w' := fun w => by have := Rsecond_ok n h w; rw [hbk] at this; exact this
  have kR : ∀ w, Calls Tryz.prog 99 #[.int .i64 (n : Nat)] w fun e w' => e = .returned (.bool true) ∧ New w w' := fun w => Rright_ok n h w
  have h1 := h.size
  have h2 := h.le
  rw [hbk] at h1
  have q1 : IntKind.i64.wrap ((bk : Int) + 4) = (bk : Int) + 4 := IntWalk.i64_in _ (by omega)
  have q2 : IntKind.i64.wrap (8 * (n : Int)) = 8 * (n : Int) := IntWalk.i64_in _ (by omega)
  have q3 : IntKind.i64.wrap ((bk : Int) + 4 + 8 * (n : Int)) = ((sizeN n : Nat) : Int) := by rw [← h1.2.2]; rw [IntWalk.i64_in _ (by omega)]; omega
  clear h1 h2 h hbk
  go_enter Tryz.func101, Tryz.ntmps101
  go_wp2_with (first
    | (go_at_call 99; (with_reducible refine (kR _).mono ?_); rintro e w1 ⟨rfl, hn1⟩; replace hv := hv.new hn1; clear hn1)
    | (go_at_call 50; (with_reducible refine (kB _).mono ?_); rintro e w1 ⟨rfl, hn1⟩; replace hv := hv.new hn1; clear hn1))
  go_ret
  exact ⟨rfl, hv.below⟩
set_option maxRecDepth 100000 in
set_option maxHeartbeats 4000000 in
theorem RMCheck_ok (mb mo mn mc : Nat) (h : mn ≤ 8192) (w : World) : Calls Tryz.prog 98 #[(.agg #[(.slice (some ⟨mb, mo, none⟩) mn mc)])] w fun e w' => e = .returned (.bool true) ∧ New w w' := by
  have hv := Mem.nil w
  have y1 : decide ((mn : Int) ≤ 8192) = true := decide_eq_true (by omega)
  have z1 : decide (mn ≤ 8192) = true := decide_eq_true h
  clear h
  go_enter Tryz.func98, Tryz.ntmps98
  go_wp2_with (first
    | ((with_reducible refine at_box (T := 28) (dst := some 1) ?_); refine wl_newb rfl #[(.slice (some ⟨mb, mo, none⟩) mn mc)] 28 (fun _ => rfl) ?_; intro b1 w2 hm2; replace hv := hv.madeAt hm2; clear hm2)
    | ((with_reducible refine at_load (T := 26) ?_); refine wl_ldc rfl b1 0 rfl _ (hv.vars.row (by first | exact .head _ | exact .tail _ (.head _) | exact .tail _ (.tail _ (.head _)) | exact .tail _ (.tail _ (.tail _ (.head _))) | exact .tail _ (.tail _ (.tail _ (.tail _ (.head _)))) | exact .tail _ (.tail _ (.tail _ (.tail _ (.tail _ (.head _))))) | exact .tail _ (.tail _ (.tail _ (.tail _ (.tail _ (.tail _ (.head _)))))) | exact .tail _ (.tail _ (.tail _ (.tail _ (.tail _ (.tail _ (.tail _ (.head _))))))))) _ Tryz.underlying26 rfl (.slice (some ⟨mb, mo, none⟩) mn mc) rfl ?_))
  go_ret
  exact ⟨rfl, hv.below⟩
set_option maxRecDepth 100000 in
set_option maxHeartbeats 4000000 in
theorem RInside_ok (mb mo mn mc p n : Nat) (h : p + n ≤ mn) (hm : mn ≤ 8192) (w : World) : Calls Tryz.prog 100 #[(.agg #[(.slice (some ⟨mb, mo, none⟩) mn mc)]), .int .i64 (p : Nat), .int .i64 (n : Nat)] w fun e w' => e = .returned (.bool true) ∧ New w w' := by
  have hv := Mem.nil w
  have y1 : decide ((0 : Int) ≤ (p : Int)) = true := decide_eq_true (by omega)
  have y2 : decide ((0 : Int) ≤ (n : Int)) = true := decide_eq_true (by omega)
  have y3 : decide ((n : Int) ≤ (mn : Int)) = true := decide_eq_true (by omega)
  have z3 : decide (n ≤ mn) = true := decide_eq_true (by omega)
  have q1 : IntKind.i64.wrap ((mn : Int) - (n : Int)) = (mn : Int) - (n : Int) := IntWalk.i64_in _ (by omega)
  have y4 : decide ((p : Int) ≤ (mn : Int) - (n : Int)) = true := decide_eq_true (by omega)
  clear h hm
  go_enter Tryz.func100, Tryz.ntmps100
  go_wp2_with (first
    | ((with_reducible refine at_box (T := 28) (dst := some 3) ?_); refine wl_newb rfl #[(.slice (some ⟨mb, mo, none⟩) mn mc)] 28 (fun _ => rfl) ?_; intro b3 w2 hm2; replace hv := hv.madeAt hm2; clear hm2)
    | ((with_reducible refine at_load (T := 26) ?_); refine wl_ldc rfl b3 0 rfl _ (hv.vars.row (by first | exact .head _ | exact .tail _ (.head _) | exact .tail _ (.tail _ (.head _)) | exact .tail _ (.tail _ (.tail _ (.head _))) | exact .tail _ (.tail _ (.tail _ (.tail _ (.head _)))) | exact .tail _ (.tail _ (.tail _ (.tail _ (.tail _ (.head _))))) | exact .tail _ (.tail _ (.tail _ (.tail _ (.tail _ (.tail _ (.head _)))))) | exact .tail _ (.tail _ (.tail _ (.tail _ (.tail _ (.tail _ (.tail _ (.head _))))))))) _ Tryz.underlying26 rfl (.slice (some ⟨mb, mo, none⟩) mn mc) rfl ?_))
  go_ret
  exact ⟨rfl, hv.below⟩
set_option maxRecDepth 100000 in
set_option maxHeartbeats 4000000 in
theorem RCheck7_ok (mb mo mn mc base n : Nat) (hn : okN n) (hb : base + sizeN n ≤ mn) (hm : mn ≤ 8192) (w : World) : Calls Tryz.prog 49 #[(.agg #[(.slice (some ⟨mb, mo, none⟩) mn mc)]), .int .i64 (base : Nat), .int .i64 (n : Nat)] w fun e w' => e = .returned (.bool true) ∧ New w w' := by
  have hv := Mem.nil w
  obtain ⟨sz, hsz⟩ : ∃ sz, sizeN n = sz := ⟨_, rfl⟩
  have kM := fun w => RMCheck_ok mb mo mn mc hm w
  have kR := fun w => Rright_ok n hn w
  have kS : ∀ w, Calls Tryz.prog 101 #[.int .i64 (n : Nat)] w fun e w' => e = .returned (.int .i64 (sz : Nat)) ∧ New w w' := fun w => by have := RSize_ok n hn w; rw [hsz] at this; exact this
  rw [hsz] at hb
  have kI := fun w => RInside_ok mb mo mn mc base sz hb hm w
  clear hn hb hm hsz
  go_enter Tryz.func49, Tryz.ntmps49
  go_wp2_with (first
    | ((with_reducible refine at_box (T := 28) (dst := some 3) ?_); refine wl_newb rfl #[(.slice (some ⟨mb, mo, none⟩) mn mc)] 28 (fun _ => rfl) ?_; intro b3 w2 hm2; replace hv := hv.madeAt hm2; clear hm2))
  refine Any.wp_region_walk [⟨[1000], none⟩, ⟨[], none⟩, ⟨[], none⟩, ⟨[], none⟩, ⟨[], none⟩, ⟨[], none⟩, ⟨[], none⟩, ⟨[1000], none⟩, ⟨[], none⟩, ⟨[], none⟩, ⟨[], none⟩, ⟨[], none⟩, ⟨[], none⟩, ⟨[], none⟩] [.val, .val, .val, .val, .val, .val, .val, .val, .val, .val, .val, .val, .val, .val] (by kernel_rfl) (by kernel_rfl) hv.vars ?_
  simp only [List.length_cons, List.length_nil, Nat.zero_add, Any.someVals]
  iterate 14 apply Exists.intro
  repeat (first
    | (refine Any.E_off rfl ?_; simp only [Act.put, List.setIfInBounds_toArray, List.set_cons_succ, List.set_cons_zero])
    | (apply Any.E_pureq rfl rfl rfl
       case h => intro K hK; go_big_quiet_op; (refine hK _ ?_; rfl)
       case hr => exact fun _ => rfl
       simp only [Act.put, List.setIfInBounds_toArray, List.set_cons_succ, List.set_cons_zero])
    | (apply Any.E_val rfl rfl rfl rfl
       case h =>
         intro E' hA K hK
         first
           | ((with_reducible refine Any.at_qload (T := 28) ?_); refine Any.q_ldv 1000 hA (by decide) rfl rfl 1 _ Tryz.underlying28 rfl infoM (by decide) rfl ?_; refine hK _ ?_; rfl)
           | (go_big_quiet_op; first
             | (refine hK _ ?_; rfl)
             | (refine ⟨_, fun _ _ => rfl, ?_⟩; refine hK _ ?_; rfl)
             | (apply Exists.intro; refine ⟨fun w1 hw1 => ?_, ?_⟩; · (first
                 | (go_at_call 98; exact Any.calls_VE (kM _) hw1)
                 | (go_at_call 99; exact Any.calls_VE (kR _) hw1)
                 | (go_at_call 101; exact Any.calls_VE (kS _) hw1)
                 | (go_at_call 100; exact Any.calls_VE (kI _) hw1))
                refine hK _ ?_; rfl))
       case hD => rfl
       simp only [Act.put, List.setIfInBounds_toArray, List.set_cons_succ, List.set_cons_zero])
    | ((with_reducible refine Any.at_ealloc ?_); refine Any.E_lay rfl rfl rfl (fun _ => rfl) ?_; intro B; simp only [Act.put, List.setIfInBounds_toArray, List.set_cons_succ, List.set_cons_zero]))
  try any_goals exact undef
  refine Any.E_nil ?_
  intro w9 hE9
  replace hv : Mem w w9 [(b3, #[(.slice (some ⟨mb, mo, none⟩) mn mc)])] _ := hE9.mem hv [1000] (by decide)
  clear hE9
  go_wp2
  go_ret
  exact ⟨rfl, hv.below⟩
theorem mem0o {w0 w : World} {O : List (Nat × Array Value)} {R : List (Nat × Value × List Value)} (h : Mem w0 w O R) : Mem w0 w ([] ++ O ++ []) R := by simpa using h
theorem mem0o' {w0 w : World} {O : List (Nat × Array Value)} {R : List (Nat × Value × List Value)} (h : Mem w0 w ([] ++ O ++ []) R) : Mem w0 w O R := by simpa using h
set_option maxRecDepth 100000 in
set_option maxHeartbeats 4000000 in
theorem RLe_k (n k : Nat) (hn : n < 18446744073709551616) (h0 : 0 < k) (hk8 : k ≤ 8) (w : World) : Calls Tryz.prog 126 #[.int .u64 (n : Nat), .int .i64 (k : Nat)] w fun e w' => ∃ v x, e = .returned v ∧ AppRow v 1 (cellsB (leB n k)) x ∧ New w w' ∧ w.heap.size ≤ x.1 ∧ w'.rowD x.1 = x.2 ∧ w'.soft x.1 = true := by
  have hv := Mem.nil w
  have HK0 := Lib.hid h0
  have HK8 := Lib.hid hk8
  have HNB := Lib.hid hn
  clear hn h0 hk8
  go_enter Tryz.func126, Tryz.ntmps126
  go_wp2
  go_loopw [0, 5, 6] (fun nv bv iv wr => ∃ (i nn : Nat) (O : List (Nat × Array Value)), i ≤ k ∧ iv = .int .i64 (i : Nat) ∧ nv = .int .u64 (nn : Nat) ∧ nn = n / 256 ^ i ∧ Mem w wr O [] ∧ Hid (OwnL 1 bv (cellsB (leB n i)) O)) (fun _ _ iv _ => k - (intOf iv).toNat)
  case atStart => exact ⟨0, n, [], Nat.zero_le _, rfl, rfl, by rw [Nat.pow_zero, Nat.div_one], hv, Lib.hid (OwnL.nil 1)⟩
  case round =>
    clear hv
    obtain ⟨i, nn, O, hi0, rfl, rfl, hnn, hv, HO⟩ := hrel
    obtain ⟨oa, on, oc, rfl, hq⟩ := id HO.out.slice
    clear hq
    have hnl : nn < 18446744073709551616 := by rw [hnn]; exact Nat.lt_of_le_of_lt (Nat.div_le_self _ _) HNB.out
    by_cases hi : i < k
    · have y1 : decide ((i : Int) < (k : Int)) = true := decide_eq_true (by omega)
      have z1 : decide (i < k) = true := decide_eq_true hi
      have y2 : decide ((i : Int) < 8) = true := decide_eq_true (by have := HK8.out; omega)
      have z2 : decide (i < 8) = true := decide_eq_true (by have := HK8.out; omega)
      have hki : (i : Int) ≤ 8 := by have := HK8.out; omega
      have q1 : IntKind.u64.wrap ((nn : Int) % 256) = ((nn % 256 : Nat) : Int) := by
        rw [show (nn : Int) % 256 = ((nn % 256 : Nat) : Int) from by omega]; exact wrapU64 (by omega)
      have q2 : IntKind.u8.wrap (((nn % 256 : Nat) : Int)) = ((nn % 256 : Nat) : Int) := wrap8 (by omega)
      have q3 : IntKind.u64.wrap ((nn : Int) / 256) = ((nn / 256 : Nat) : Int) := by
        rw [show (nn : Int) / 256 = ((nn / 256 : Nat) : Int) from by omega]; exact wrapU64 (by omega)
      have HLB : Hid (cellsB (leB n i) ++ [.int .u8 (nn % 256 : Nat)] = cellsB (leB n (i + 1))) := Lib.hid (by
        rw [leB_succ, ← hnn]; unfold cellsB; simp)
      have HP1 : Hid (((cellsB (leB n i)).length + [Value.int .u8 (nn % 256 : Nat)].length) / 1 ≤ maxLen) := Lib.hid (by rw [cellsB_len, leB_len]; show (i + 1) / 1 ≤ _; have := HK8.out; unfold maxLen; omega)
      have HP2 : Hid (((cellsB (leB n i)).length + [Value.int .u8 (nn % 256 : Nat)].length) / 1 * 1 ≤ 140737488355328) := Lib.hid (by rw [cellsB_len, leB_len]; show (i + 1) / 1 * 1 ≤ _; have := HK8.out; omega)
      have HNN : Hid (nn / 256 = n / 256 ^ (i + 1)) := Lib.hid (by rw [hnn, Nat.div_div_eq_div_mul, Nat.pow_succ])
      have HIN := Lib.hid hi
      clear hi hi0 hnn hnl
      go_wp2_with (first
        | ((with_reducible refine at_append (t := 26) ?_); replace hv := (mem0o hv).bsl' (k := 1) (n := 1) (c := [.int .u8 (nn % 256 : Nat)]) ⟨rfl, made_alloc _ #[.int .u8 (nn % 256 : Nat)] 5⟩ rfl rfl (by unfold maxLen; omega); refine wl_appO (A := []) (B := []) rfl rfl HO.out hv (.int .u8 0) 1 Tryz.underlying26 infoU8z rfl (by decide) rfl (hv.rd Mem.z) (by simp [Value.oneCell']) HP1.out HP2.out ?_; intro v2 w7 O2 hO2 hv1; replace hv := mem0o' hv1.dropR; clear hv1; rw [HLB.out] at hO2; have hq2 := hO2.slice; obtain ⟨ua, un, uc, rfl, hq3⟩ := hq2; clear hq3; replace hO2 := Lib.hid hO2))
      have hin := HIN.out
      go_roundw
      case rel => exact ⟨i + 1, nn / 256, O2, by omega, by go_num, rfl, HNN.out, hv, hO2⟩
      case measure => simp [intOf]; omega
    · have y1 : decide ((i : Int) < (k : Int)) = false := decide_eq_false (by omega)
      have z1 : decide (i < k) = false := decide_eq_false hi
      obtain rfl : k = i := by omega
      clear hi hi0 hnn hnl
      go_wp2
      go_ret
      rcases HO.out with ⟨_, e2, _⟩ | ⟨x, hrow, e3⟩
      · have := congrArg List.length e2
        rw [cellsB_len, leB_len] at this
        exact absurd this (by have := HK0.out; simp; omega)
      · subst e3
        exact ⟨_, x, rfl, hrow, hv.below, (hv.vars.rows x (List.mem_cons_self ..)).2.2, (hv.vars.rows x (List.mem_cons_self ..)).1, (hv.vars.rows x (List.mem_cons_self ..)).2.1⟩
end Go.Proofs.YtcelehhaggoijaaGreat
end

section
/-
  The reference's memory and rings: what is put, returned, offered.
-/
set_option linter.unusedVariables false
set_option linter.unusedSimpArgs false
namespace Go.Proofs.YtcelehhaggoijaaGreat
open Go.Proofs.Qu Go.Proofs.Nm Go.RowKit Go.Proofs
set_option maxRecDepth 100000 in
set_option maxHeartbeats 4000000 in
theorem RPut_row {w0 w : World} {L : List (Nat × Array Value)} {R : List (Nat × Value × List Value)} {mb mo mn mc : Nat} {M : List Nat} (hv : Mem w0 w L R) (hm : InM R mb mo mn mc M) (p : Nat) {db do_ dn dc : Nat} {D : List Nat} (hd : (1, .slice (some ⟨db, do_, none⟩) dn dc, cellsB D) ∈ R) (h0 : 0 < dn) (h : p + dn ≤ mn) : Calls Tryz.prog 125 #[(.agg #[(.slice (some ⟨mb, mo, none⟩) mn mc)]), .int .i64 (p : Nat), .slice (some ⟨db, do_, none⟩) dn dc] w fun e w' => ∃ b c, e = .returned (.tuple #[.agg #[.slice (some ⟨b, 0, none⟩) mn c], .int .i64 0]) ∧ ∃ z, AppRow (.slice (some ⟨b, 0, none⟩) mn c) 1 (cellsB (putB M p D)) (b, z) ∧ Mem w0 w' ((b, z) :: L) R := by
  have HM := Lib.hid hm
  have HD := Lib.hid hd
  have HH := Lib.hid h
  have HML := Lib.hid hm.len
  have HM8 : Hid (mn ≤ 8192) := Lib.hid hm.most
  have hdl : D.length = dn := by
    obtain ⟨_, _, _, e, g, _⟩ := hv.rd hd
    cases e
    rw [cellsB_len] at g; omega
  have HDL := Lib.hid hdl
  have HA1 : Hid ((([] : List Value).length + (cellsB M).length) / 1 ≤ maxLen) := Lib.hid (by rw [cellsB_len, hm.len]; have := hm.most; simp only [List.length_nil]; unfold maxLen; omega)
  have HA2 : Hid ((([] : List Value).length + (cellsB M).length) / 1 * 1 ≤ 140737488355328) := Lib.hid (by rw [cellsB_len, hm.len]; have := hm.most; simp only [List.length_nil]; omega)
  clear hm h h0 hd hdl
  go_enter Tryz.func125, Tryz.ntmps125
  go_wp2_with (first
    | ((with_reducible refine at_box (T := 28) (dst := some 3) ?_); refine wl_newb rfl #[(.slice (some ⟨mb, mo, none⟩) mn mc)] 28 (fun _ => rfl) ?_; intro b3 w2 hm2; replace hv := hv.madeAt hm2; clear hm2)
    | ((with_reducible refine at_alloc (T := 28) (dst := some 6) ?_); refine wl_newb rfl #[.slice none 0 0] 28 (fun _ => rfl) ?_; intro b6 w2 hm2; replace hv := hv.madeAt hm2; clear hm2)
    | ((with_reducible refine at_load (T := 28) ?_); refine wl_ldv rfl b3 rfl _ (hv.vars.row (by first | exact .head _ | exact .tail _ (.head _) | exact .tail _ (.tail _ (.head _)) | exact .tail _ (.tail _ (.tail _ (.head _))) | exact .tail _ (.tail _ (.tail _ (.tail _ (.head _)))) | exact .tail _ (.tail _ (.tail _ (.tail _ (.tail _ (.head _))))) | exact .tail _ (.tail _ (.tail _ (.tail _ (.tail _ (.tail _ (.head _)))))) | exact .tail _ (.tail _ (.tail _ (.tail _ (.tail _ (.tail _ (.tail _ (.head _))))))))) 1 _ Tryz.underlying28 rfl infoM (by decide) rfl ?_)
    | ((with_reducible refine at_load (T := 26) ?_); replace hv := hv.madeAt ⟨rfl, made_alloc _ #[] 5⟩; refine wl_ldc rfl b3 0 rfl _ (hv.vars.row (by first | exact .head _ | exact .tail _ (.head _) | exact .tail _ (.tail _ (.head _)) | exact .tail _ (.tail _ (.tail _ (.head _))) | exact .tail _ (.tail _ (.tail _ (.tail _ (.head _)))) | exact .tail _ (.tail _ (.tail _ (.tail _ (.tail _ (.head _))))) | exact .tail _ (.tail _ (.tail _ (.tail _ (.tail _ (.tail _ (.head _)))))) | exact .tail _ (.tail _ (.tail _ (.tail _ (.tail _ (.tail _ (.tail _ (.head _))))))))) _ Tryz.underlying26 rfl (.slice (some ⟨mb, mo, none⟩) mn mc) rfl ?_)
    | (go_at_call 98; (with_reducible refine (RMCheck_ok _ _ _ _ HM8.out _).mono ?_); rintro e w1 ⟨rfl, hn1⟩; replace hv := hv.new hn1; clear hn1)
    | (go_at_call 100; (with_reducible refine (RInside_ok _ _ _ _ _ _ HH.out HM8.out _).mono ?_); rintro e w1 ⟨rfl, hn1⟩; replace hv := hv.new hn1; clear hn1)
    | ((with_reducible refine at_append (t := 26) ?_); refine wl_apph rfl rfl hv (Any.AppRow.zero _ 1) (.int .u8 0) 1 Tryz.underlying26 infoU8z rfl (by decide) rfl (hv.rd HM.out.rd) (cellsB_one' _) HA1.out HA2.out ?_; intro v3 w3 x3 hrow hv1; replace hv := hv1; clear hv1; rw [List.nil_append] at hrow; obtain ⟨x3b, x3z⟩ := x3; have hq := hrow; obtain ⟨n3, c3, rfl, g3, g4⟩ := hq; clear g4; have hn3 : mn = n3 := (by rw [cellsB_len, HML.out] at g3; omega); clear g3; subst hn3; replace hrow := Lib.hid hrow))
  go_loopw [9] (fun iv wr => ∃ (i : Nat) (z : Array Value), i ≤ dn ∧ iv = .int .i64 (i : Nat) ∧ Mem w0 wr ((x3b, z) :: (b6, #[.slice none 0 0]) :: (b3, #[(.slice (some ⟨mb, mo, none⟩) mn mc)]) :: L) R ∧ Hid (AppRow (.slice (some ⟨x3b, 0, none⟩) mn c3) 1 (cellsB (putB M p (D.take i))) (x3b, z))) (fun iv _ => dn - (intOf iv).toNat)
  case atStart => exact ⟨0, x3z, Nat.zero_le _, rfl, hv, Lib.hid (by rw [List.take_zero, putB_nil]; exact hrow.out)⟩
  case round =>
    clear hv hrow
    obtain ⟨i, z, hi0, rfl, hv, hrow⟩ := hrel
    by_cases hi : i < dn
    · have y1 : decide ((i : Int) < (dn : Int)) = true := decide_eq_true (by omega)
      have z1 : decide (i < dn) = true := decide_eq_true hi
      have hb := HH.out
      have hb8 := HM8.out
      have hidl : i < D.length := by rw [HDL.out]; exact hi
      obtain ⟨x, hx⟩ : ∃ x, D[i] = x := ⟨_, rfl⟩
      have HX : Hid ((cellsB D)[i]? = some (.int .u8 (x : Nat))) := Lib.hid (by unfold cellsB; rw [List.getElem?_map, List.getElem?_eq_getElem hidl, hx]; rfl)
      have q1 : IntKind.i64.wrap ((p : Int) + (i : Int)) = (p : Int) + (i : Int) := IntWalk.i64_in _ (by omega)
      have q2 : (p : Int) + (i : Int) < (mn : Int) := by omega
      have q3 : (0 : Int) ≤ (p : Int) + (i : Int) := by omega
      have q4 : ((p : Int) + (i : Int)).toNat = p + i := by omega
      have q5 : (i : Int) < (dn : Int) := by omega
      have hki : (i : Int) ≤ 8192 := by omega
      have HSZ : Hid (p + i < z.size) := Lib.hid (by
        obtain ⟨_, _, e, _, g, _, g2, _⟩ := hrow.out
        cases e
        have : z.size = c3 * 1 := g2
        omega)
      have HIN := Lib.hid hi
      have HNX : Hid (AppRow (.slice (some ⟨x3b, 0, none⟩) mn c3) 1 (cellsB (putB M p (D.take (i + 1)))) (x3b, z.setIfInBounds (p + i) (.int .u8 (x : Nat)))) := Lib.hid (by
        have hl : (D.take i).length = i := by rw [List.length_take]; omega
        have e : D.take (i + 1) = D.take i ++ [x] := by rw [List.take_add_one, List.getElem?_eq_getElem hidl, hx]; rfl
        rw [e, putB_snoc (by rw [hl, HML.out]; omega), hl]
        exact row_set hrow.out (by rw [putB_len (by rw [hl, HML.out]; omega), HML.out]; omega) x)
      clear hi hi0 hb hb8 hidl hx hrow
      go_wp2_with (first
        | ((with_reducible refine at_load (T := 5) ?_); refine wl_rd rfl (c := cellsB D) (hv.rd HD.out) i rfl _ Tryz.underlying5 rfl (.int .u8 (x : Nat)) HX.out ?_)
        | ((with_reducible refine at_store (T := 5) ?_); refine wl_stc rfl x3b (p + i) rfl (.int .u8 (x : Nat)) rfl _ (hv.vars.row (by first | exact .head _ | exact .tail _ (.head _) | exact .tail _ (.tail _ (.head _)) | exact .tail _ (.tail _ (.tail _ (.head _))) | exact .tail _ (.tail _ (.tail _ (.tail _ (.head _)))) | exact .tail _ (.tail _ (.tail _ (.tail _ (.tail _ (.head _))))) | exact .tail _ (.tail _ (.tail _ (.tail _ (.tail _ (.tail _ (.head _)))))) | exact .tail _ (.tail _ (.tail _ (.tail _ (.tail _ (.tail _ (.tail _ (.head _))))))))) (hv.vars.sft (by first | exact .head _ | exact .tail _ (.head _) | exact .tail _ (.tail _ (.head _)) | exact .tail _ (.tail _ (.tail _ (.head _))) | exact .tail _ (.tail _ (.tail _ (.tail _ (.head _)))) | exact .tail _ (.tail _ (.tail _ (.tail _ (.tail _ (.head _))))) | exact .tail _ (.tail _ (.tail _ (.tail _ (.tail _ (.tail _ (.head _)))))) | exact .tail _ (.tail _ (.tail _ (.tail _ (.tail _ (.tail _ (.tail _ (.head _))))))))) infoU81 rfl HSZ.out ?_; intro w2 hw2; (first | (replace hv := hv.set 0 rfl hw2) | (replace hv := hv.set 1 rfl hw2) | (replace hv := hv.set 2 rfl hw2) | (replace hv := hv.set 3 rfl hw2)); clear hw2; simp only [List.set] at hv))
      have hin := HIN.out
      go_roundw
      case rel => exact ⟨i + 1, _, by omega, by go_num, hv, HNX⟩
      case measure => simp [intOf]; omega
    · have y1 : decide ((i : Int) < (dn : Int)) = false := decide_eq_false (by omega)
      have z1 : decide (i < dn) = false := decide_eq_false hi
      obtain rfl : dn = i := by omega
      have HROW : Hid (AppRow (.slice (some ⟨x3b, 0, none⟩) mn c3) 1 (cellsB (putB M p D)) (x3b, z)) := Lib.hid (by
        have := hrow.out
        rw [List.take_of_length_le (by rw [HDL.out]; exact Nat.le_refl _)] at this
        exact this)
      clear hi hi0 hrow
      go_wp2_with (first
        | ((with_reducible refine at_build ?_); refine wl_build rfl [(0, .slice (some ⟨x3b, 0, none⟩) mn c3)] rfl (built_mem _ _ _) ?_)
        | ((with_reducible refine at_store (T := 28) ?_); refine wl_stv rfl b6 rfl _ rfl _ (hv.vars.row (by first | exact .head _ | exact .tail _ (.head _) | exact .tail _ (.tail _ (.head _)) | exact .tail _ (.tail _ (.tail _ (.head _))) | exact .tail _ (.tail _ (.tail _ (.tail _ (.head _)))) | exact .tail _ (.tail _ (.tail _ (.tail _ (.tail _ (.head _))))) | exact .tail _ (.tail _ (.tail _ (.tail _ (.tail _ (.tail _ (.head _)))))) | exact .tail _ (.tail _ (.tail _ (.tail _ (.tail _ (.tail _ (.tail _ (.head _))))))))) (hv.vars.sft (by first | exact .head _ | exact .tail _ (.head _) | exact .tail _ (.tail _ (.head _)) | exact .tail _ (.tail _ (.tail _ (.head _))) | exact .tail _ (.tail _ (.tail _ (.tail _ (.head _)))) | exact .tail _ (.tail _ (.tail _ (.tail _ (.tail _ (.head _))))) | exact .tail _ (.tail _ (.tail _ (.tail _ (.tail _ (.tail _ (.head _)))))) | exact .tail _ (.tail _ (.tail _ (.tail _ (.tail _ (.tail _ (.tail _ (.head _))))))))) 1 infoM rfl rfl (by simp [Value.oneCell']) ?_; intro w2 hw2; (first | (replace hv := hv.set 0 rfl hw2) | (replace hv := hv.set 1 rfl hw2) | (replace hv := hv.set 2 rfl hw2) | (replace hv := hv.set 3 rfl hw2)); clear hw2; simp only [List.set] at hv))
      try simp only [Exit.inBlock, Exit.then]
      refine ret_cell2 (v := .agg #[.slice (some ⟨x3b, 0, none⟩) mn c3]) (v1 := .int .i64 0) rfl rfl (read_row _ b6 28 _ (hv.vars.row (b := b6) (by first | exact .head _ | exact .tail _ (.head _) | exact .tail _ (.tail _ (.head _)) | exact .tail _ (.tail _ (.tail _ (.head _))) | exact .tail _ (.tail _ (.tail _ (.tail _ (.head _)))) | exact .tail _ (.tail _ (.tail _ (.tail _ (.tail _ (.head _))))) | exact .tail _ (.tail _ (.tail _ (.tail _ (.tail _ (.tail _ (.head _)))))) | exact .tail _ (.tail _ (.tail _ (.tail _ (.tail _ (.tail _ (.tail _ (.head _))))))))) 1 _ Tryz.underlying28 rfl infoM (by decide) rfl) rfl rfl ?_
      exact ⟨x3b, c3, rfl, z, HROW.out, (hv.perm (perm3i (x3b, z) _ _ L)).drop.drop⟩
set_option maxRecDepth 100000 in
set_option maxHeartbeats 4000000 in
theorem RPutNum_row {w0 w : World} {L : List (Nat × Array Value)} {R : List (Nat × Value × List Value)} {mb mo mn mc : Nat} {M : List Nat} (hv : Mem w0 w L R) (hm : InM R mb mo mn mc M) (p n k : Nat) (h0 : 0 < k) (h1 : k ≤ 8) (h : p + k ≤ mn) (hn : n < 18446744073709551616) :
    Calls Tryz.prog 102 #[(.agg #[(.slice (some ⟨mb, mo, none⟩) mn mc)]), .int .i64 (p : Nat), .int .i64 (k : Nat), .int .u64 (n : Nat)] w fun e w' => ∃ b c, e = .returned (.tuple #[.agg #[.slice (some ⟨b, 0, none⟩) mn c], .int .i64 0]) ∧ ∃ z, AppRow (.slice (some ⟨b, 0, none⟩) mn c) 1 (cellsB (putB M p (leB n k))) (b, z) ∧ Mem w0 w' ((b, z) :: L) R := by
  have HM := Lib.hid hm
  have HH := Lib.hid h
  have HK0 := Lib.hid h0
  have HK8 := Lib.hid h1
  have HLE := Lib.hid (RLe_k n k hn h0 h1)
  have HM8 : Hid (mn ≤ 8192) := Lib.hid hm.most
  have HWS : Hid (∃ v x, AppRow v 1 (cellsB (leB n k)) x) := Lib.hid (Any.AppRow.some (n := k) (by rw [cellsB_len, leB_len, Nat.mul_one]) (by unfold maxLen; omega))
  have y1 : decide ((k : Int) < 1) = false := decide_eq_false (by omega)
  have z1 : decide (k < 1) = false := decide_eq_false (by omega)
  have y2 : decide ((8 : Int) < (k : Int)) = false := decide_eq_false (by omega)
  have z2 : decide (8 < k) = false := decide_eq_false (by omega)
  clear hm h h0 h1 hn
  go_enter Tryz.func102, Tryz.ntmps102
  go_wp2_with (first
    | ((with_reducible refine at_box (T := 28) (dst := some 4) ?_); refine wl_newb rfl #[(.slice (some ⟨mb, mo, none⟩) mn mc)] 28 (fun _ => rfl) ?_; intro b4 w2 hm2; replace hv := hv.madeAt hm2; clear hm2)
    | ((with_reducible refine at_alloc (T := 28) (dst := some 8) ?_); refine wl_newb rfl #[.slice none 0 0] 28 (fun _ => rfl) ?_; intro b8 w2 hm2; replace hv := hv.madeAt hm2; clear hm2)
    | ((with_reducible refine at_load (T := 28) ?_); refine wl_ldv rfl b4 rfl _ (hv.vars.row (by first | exact .head _ | exact .tail _ (.head _) | exact .tail _ (.tail _ (.head _)) | exact .tail _ (.tail _ (.tail _ (.head _))) | exact .tail _ (.tail _ (.tail _ (.tail _ (.head _)))) | exact .tail _ (.tail _ (.tail _ (.tail _ (.tail _ (.head _))))) | exact .tail _ (.tail _ (.tail _ (.tail _ (.tail _ (.tail _ (.head _)))))) | exact .tail _ (.tail _ (.tail _ (.tail _ (.tail _ (.tail _ (.tail _ (.head _))))))))) 1 _ Tryz.underlying28 rfl infoM (by decide) rfl ?_)
    | (go_at_call 98; (with_reducible refine (RMCheck_ok _ _ _ _ HM8.out _).mono ?_); rintro e w1 ⟨rfl, hn1⟩; replace hv := hv.new hn1; clear hn1))
  have hv0 := hv
  clear hv
  have hv : Mem w0 _ ([(b8, #[.slice none 0 0]), (b4, #[(.slice (some ⟨mb, mo, none⟩) mn mc)])] ++ L) _ := hv0
  clear hv0
  refine Any.wp_region_cut 5 [⟨[1001], none⟩, ⟨[], none⟩, ⟨[], none⟩, ⟨[], none⟩, ⟨[], some 9⟩, ⟨[], none⟩, ⟨[], none⟩, ⟨[], none⟩, ⟨[], none⟩, ⟨[], none⟩] [.val, .val, .val, .val, .own (fun v x => AppRow v 1 (cellsB (leB n k)) x)] (by kernel_rfl) (by kernel_rfl) (hv.vars.keep (List.sublist_append_left [(b8, #[.slice none 0 0]), (b4, #[(.slice (some ⟨mb, mo, none⟩) mn mc)])] L)) ?_
  simp only [Any.someVals, List.take_succ_cons, List.take_zero]
  iterate 5 apply Exists.intro
  repeat (first
    | (refine Any.E_off rfl ?_; simp only [Act.put, List.setIfInBounds_toArray, List.set_cons_succ, List.set_cons_zero])
    | (apply Any.E_pureq rfl rfl rfl
       case h => intro K hK; go_big_quiet_op; (refine hK _ ?_; rfl)
       case hr => exact fun _ => rfl
       simp only [Act.put, List.setIfInBounds_toArray, List.set_cons_succ, List.set_cons_zero])
    | (apply Any.E_val rfl rfl rfl rfl
       case h =>
         intro E' hA K hK
         first
           | ((with_reducible refine Any.at_qload (T := 28) ?_); refine Any.q_ldv 1001 hA (by decide) rfl rfl 1 _ Tryz.underlying28 rfl infoM (by decide) rfl ?_; refine hK _ ?_; rfl)
           | (go_big_quiet_op; first
             | (refine hK _ ?_; rfl)
             | (refine ⟨_, fun _ _ => rfl, ?_⟩; refine hK _ ?_; rfl)
             | (apply Exists.intro; refine ⟨fun w1 hw1 => ?_, ?_⟩; · (first
                 | fail)
                refine hK _ ?_; rfl))
       case hD => rfl
       simp only [Act.put, List.setIfInBounds_toArray, List.set_cons_succ, List.set_cons_zero])
    | ((with_reducible refine Any.at_ealloc ?_); refine Any.E_lay rfl rfl rfl (fun _ => rfl) ?_; intro B; simp only [Act.put, List.setIfInBounds_toArray, List.set_cons_succ, List.set_cons_zero])
    | ((with_reducible refine Any.at_ecall ?_); refine Any.E_callown (W := fun v x => AppRow v 1 (cellsB (leB n k)) x) rfl rfl rfl (Go.Proofs.enters_of Tryz.func126 (by kernel_rfl) rfl) rfl [.int .u64 (n : Nat), .int .i64 (k : Nat)] rfl HWS.out (fun E' w1 hw1 => HLE.out w1) ?_; intro v9 x9 hW9; have hq9 := hW9; obtain ⟨n9, c9, rfl, g9, g8⟩ := hq9; clear g8; replace g9 := Lib.hid g9; replace hW9 := Lib.hid hW9; simp only [Act.put, List.setIfInBounds_toArray, List.set_cons_succ, List.set_cons_zero])
    | ((with_reducible refine Any.at_estore (T := 28) ?_); refine Any.E_putv (T := 28) rfl rfl rfl rfl rfl rfl 1 infoM rfl rfl (by simp [Value.oneCell']) ?_; simp only [Act.put, List.setIfInBounds_toArray, List.set_cons_succ, List.set_cons_zero]))
  try any_goals exact undef
  refine Any.E_nil ?_
  intro w9 hE9
  replace hv : Mem w0 w9 ([x9, (b8, #[.slice none 0 0]), (b4, #[(.slice (some ⟨mb, mo, none⟩) mn mc)])] ++ L) _ := hE9.memr (L1 := [(b8, #[.slice none 0 0]), (b4, #[(.slice (some ⟨mb, mo, none⟩) mn mc)])]) hv [9, 1000, 1001] (by decide)
  clear hE9
  have hv2 := Mem.yield (L1 := []) hv hW9.out
  replace hv := hv2
  clear hv2
  simp only [List.nil_append] at hv
  have hn9 : n9 = k := by have h9 := g9.out; rw [cellsB_len, leB_len] at h9; omega
  subst hn9
  refine Any.wpOp_callv rfl rfl (Go.Proofs.enters_of Tryz.func125 (by kernel_rfl) rfl) rfl [(.agg #[(.slice (some ⟨mb, mo, none⟩) mn mc)]), .int .i64 (p : Nat), .slice (some ⟨x9.1, 0, none⟩) n9 c9] rfl ?_
  refine (RPut_row hv (HM.out.mono fun x hx => Mem.s hx) p Mem.z HK0.out HH.out).mono ?_
  rintro e w1 ⟨vb, vc, rfl, vz, hrow, hv1⟩
  have hv2 := (hv1.perm (perm3i (vb, vz) _ _ L)).dropR
  replace hv := hv2
  have HROW := Lib.hid hrow
  clear hv1 hv2 hrow
  refine ⟨_, rfl, ?_⟩
  have hv0 := hv
  clear hv
  have hv : Mem w0 _ ([(b8, #[.slice none 0 0]), (b4, #[(.slice (some ⟨mb, mo, none⟩) mn mc)])] ++ ((vb, vz) :: L)) _ := hv0
  clear hv0
  refine Any.wpAny_rest 6 [⟨[], none⟩, ⟨[], none⟩, ⟨[1000], some 1000⟩, ⟨[], none⟩] [.val, .val, .put, .val] (by kernel_rfl) (hv.vars.keep (List.sublist_append_left [(b8, #[.slice none 0 0]), (b4, #[(.slice (some ⟨mb, mo, none⟩) mn mc)])] ((vb, vz) :: L))) ?_
  simp only [List.length_cons, List.length_nil, Nat.zero_add, Nat.reduceAdd, Nat.reduceSub, Any.someVals, List.drop_succ_cons, List.drop_zero]
  simp only [Act.put, List.setIfInBounds_toArray, List.set_cons_succ, List.set_cons_zero]
  iterate 4 apply Exists.intro
  repeat (first
    | (refine Any.E_off rfl ?_; simp only [Act.put, List.setIfInBounds_toArray, List.set_cons_succ, List.set_cons_zero])
    | (apply Any.E_pureq rfl rfl rfl
       case h => intro K hK; go_big_quiet_op; (refine hK _ ?_; rfl)
       case hr => exact fun _ => rfl
       simp only [Act.put, List.setIfInBounds_toArray, List.set_cons_succ, List.set_cons_zero])
    | (apply Any.E_val rfl rfl rfl rfl
       case h =>
         intro E' hA K hK
         first
           | ((with_reducible refine Any.at_qload (T := 28) ?_); refine Any.q_ldv 1001 hA (by decide) rfl rfl 1 _ Tryz.underlying28 rfl infoM (by decide) rfl ?_; refine hK _ ?_; rfl)
           | (go_big_quiet_op; first
             | (refine hK _ ?_; rfl)
             | (refine ⟨_, fun _ _ => rfl, ?_⟩; refine hK _ ?_; rfl)
             | (apply Exists.intro; refine ⟨fun w1 hw1 => ?_, ?_⟩; · (first
                 | fail)
                refine hK _ ?_; rfl))
       case hD => rfl
       simp only [Act.put, List.setIfInBounds_toArray, List.set_cons_succ, List.set_cons_zero])
    | ((with_reducible refine Any.at_ealloc ?_); refine Any.E_lay rfl rfl rfl (fun _ => rfl) ?_; intro B; simp only [Act.put, List.setIfInBounds_toArray, List.set_cons_succ, List.set_cons_zero])
    | ((with_reducible refine Any.at_ecall ?_); refine Any.E_callown (W := fun v x => AppRow v 1 (cellsB (leB n k)) x) rfl rfl rfl (Go.Proofs.enters_of Tryz.func126 (by kernel_rfl) rfl) rfl [.int .u64 (n : Nat), .int .i64 (k : Nat)] rfl HWS.out (fun E' w1 hw1 => HLE.out w1) ?_; intro v9 x9 hW9; have hq9 := hW9; obtain ⟨n9, c9, rfl, g9, g8⟩ := hq9; clear g8; replace g9 := Lib.hid g9; replace hW9 := Lib.hid hW9; simp only [Act.put, List.setIfInBounds_toArray, List.set_cons_succ, List.set_cons_zero])
    | ((with_reducible refine Any.at_estore (T := 28) ?_); refine Any.E_putv (T := 28) rfl rfl rfl rfl rfl rfl 1 infoM rfl rfl (by simp [Value.oneCell']) ?_; simp only [Act.put, List.setIfInBounds_toArray, List.set_cons_succ, List.set_cons_zero]))
  try any_goals exact undef
  refine Any.E_nil ?_
  intro w9 hE9
  replace hv : Mem w0 w9 ([(b8, #[.slice (some ⟨vb, 0, none⟩) mn vc]), (b4, #[(.slice (some ⟨mb, mo, none⟩) mn mc)])] ++ ((vb, vz) :: L)) _ := hE9.memr0 (L1 := [(b8, #[.slice none 0 0]), (b4, #[(.slice (some ⟨mb, mo, none⟩) mn mc)])]) hv [1000, 1001] (by decide)
  clear hE9
  simp only [List.cons_append, List.nil_append] at hv
  go_wp2
  try simp only [Exit.inBlock, Exit.then]
  refine ret_cell2 (v := .agg #[.slice (some ⟨vb, 0, none⟩) mn vc]) (v1 := .int .i64 0) rfl rfl (read_row _ b8 28 _ (hv.vars.row (b := b8) (by first | exact .head _ | exact .tail _ (.head _) | exact .tail _ (.tail _ (.head _)) | exact .tail _ (.tail _ (.tail _ (.head _))) | exact .tail _ (.tail _ (.tail _ (.tail _ (.head _)))) | exact .tail _ (.tail _ (.tail _ (.tail _ (.tail _ (.head _))))) | exact .tail _ (.tail _ (.tail _ (.tail _ (.tail _ (.tail _ (.head _)))))) | exact .tail _ (.tail _ (.tail _ (.tail _ (.tail _ (.tail _ (.tail _ (.head _))))))))) 1 _ Tryz.underlying28 rfl infoM (by decide) rfl) rfl rfl ?_
  exact ⟨vb, vc, rfl, vz, HROW.out, hv.drop.drop⟩
theorem RPutNum_gen {w0 w : World} {L : List (Nat × Array Value)} {R : List (Nat × Value × List Value)} {mb mo mn mc : Nat} {M : List Nat} (hv : Mem w0 w L R) (hm : InM R mb mo mn mc M) (p n k : Nat) (h0 : 0 < k) (h1 : k ≤ 8) (h : p + k ≤ mn) (hn : n < 18446744073709551616) :
    Calls Tryz.prog 102 #[(.agg #[(.slice (some ⟨mb, mo, none⟩) mn mc)]), .int .i64 (p : Nat), .int .i64 (k : Nat), .int .u64 (n : Nat)] w fun e w' => ∃ b c R', e = .returned (.tuple #[.agg #[.slice (some ⟨b, 0, none⟩) mn c], .int .i64 0]) ∧ Mem w0 w' L R' ∧ InM R' b 0 mn c (putB M p (leB n k)) ∧ ∀ x ∈ R, x ∈ R' := by
  refine (RPutNum_row hv hm p n k h0 h1 h hn).mono ?_
  rintro e w' ⟨b, c, rfl, z, hrow, hv1⟩
  have hv2 := Mem.yield (L1 := []) hv1 hrow
  simp only [List.nil_append] at hv2
  exact ⟨b, c, _, rfl, hv2, ⟨Mem.z, by rw [putB_len (by rw [leB_len, hm.len]; omega)]; exact hm.len, hm.pos, hm.most, putB_good hm.good (leB_good n k)⟩, fun x hx => Mem.s hx⟩
set_option maxRecDepth 100000 in
set_option maxHeartbeats 4000000 in
theorem Rput_gen {w0 w : World} {L : List (Nat × Array Value)} {R : List (Nat × Value × List Value)} {mb mo mn mc : Nat} {M : List Nat} (hv : Mem w0 w L R) (hm : InM R mb mo mn mc M) (p n k : Nat) (h0 : 0 < k) (h1 : k ≤ 8) (h : p + k ≤ mn) (hn : n < 18446744073709551616) :
    Calls Tryz.prog 51 #[(.agg #[(.slice (some ⟨mb, mo, none⟩) mn mc)]), .int .i64 (p : Nat), .int .i64 (k : Nat), .int .u64 (n : Nat)] w fun e w' => ∃ b c R', e = .returned (.agg #[.slice (some ⟨b, 0, none⟩) mn c]) ∧ Mem w0 w' L R' ∧ InM R' b 0 mn c (putB M p (leB n k)) ∧ ∀ x ∈ R, x ∈ R' := by
  have HM := Lib.hid hm
  have HH := Lib.hid h
  have HK0 := Lib.hid h0
  have HK8 := Lib.hid h1
  have HNB := Lib.hid hn
  clear hm h h0 h1 hn
  go_enter Tryz.func51, Tryz.ntmps51
  go_wp2_with (first
    | ((with_reducible refine at_box (T := 28) (dst := some 4) ?_); refine wl_newb rfl #[(.slice (some ⟨mb, mo, none⟩) mn mc)] 28 (fun _ => rfl) ?_; intro b4 w2 hm2; replace hv := hv.madeAt hm2; clear hm2)
    | ((with_reducible refine at_alloc (T := 28) (dst := some 8) ?_); refine wl_newb rfl #[.slice none 0 0] 28 (fun _ => rfl) ?_; intro b8 w2 hm2; replace hv := hv.madeAt hm2; clear hm2)
    | ((with_reducible refine at_load (T := 28) ?_); refine wl_ldv rfl b4 rfl _ (hv.vars.row (by first | exact .head _ | exact .tail _ (.head _) | exact .tail _ (.tail _ (.head _)) | exact .tail _ (.tail _ (.tail _ (.head _))) | exact .tail _ (.tail _ (.tail _ (.tail _ (.head _)))) | exact .tail _ (.tail _ (.tail _ (.tail _ (.tail _ (.head _))))) | exact .tail _ (.tail _ (.tail _ (.tail _ (.tail _ (.tail _ (.head _)))))) | exact .tail _ (.tail _ (.tail _ (.tail _ (.tail _ (.tail _ (.tail _ (.head _))))))))) 1 _ Tryz.underlying28 rfl infoM (by decide) rfl ?_)
    | (go_at_call 102; (with_reducible refine (RPutNum_gen hv HM.out p n k HK0.out HK8.out HH.out HNB.out).mono ?_); rintro e w1 ⟨vb, vc, R1, rfl, hv1, hi1, hs1⟩; replace hv := hv1; have HI := Lib.hid hi1; have HS := Lib.hid hs1; clear hv1 hi1 hs1)
    | ((with_reducible refine at_store (T := 28) ?_); refine wl_stv rfl b4 rfl _ rfl _ (hv.vars.row (by first | exact .head _ | exact .tail _ (.head _) | exact .tail _ (.tail _ (.head _)) | exact .tail _ (.tail _ (.tail _ (.head _))) | exact .tail _ (.tail _ (.tail _ (.tail _ (.head _)))) | exact .tail _ (.tail _ (.tail _ (.tail _ (.tail _ (.head _))))) | exact .tail _ (.tail _ (.tail _ (.tail _ (.tail _ (.tail _ (.head _)))))) | exact .tail _ (.tail _ (.tail _ (.tail _ (.tail _ (.tail _ (.tail _ (.head _))))))))) (hv.vars.sft (by first | exact .head _ | exact .tail _ (.head _) | exact .tail _ (.tail _ (.head _)) | exact .tail _ (.tail _ (.tail _ (.head _))) | exact .tail _ (.tail _ (.tail _ (.tail _ (.head _)))) | exact .tail _ (.tail _ (.tail _ (.tail _ (.tail _ (.head _))))) | exact .tail _ (.tail _ (.tail _ (.tail _ (.tail _ (.tail _ (.head _)))))) | exact .tail _ (.tail _ (.tail _ (.tail _ (.tail _ (.tail _ (.tail _ (.head _))))))))) 1 infoM rfl rfl (by simp [Value.oneCell']) ?_; intro w2 hw2; (first | (replace hv := hv.set 0 rfl hw2) | (replace hv := hv.set 1 rfl hw2) | (replace hv := hv.set 2 rfl hw2) | (replace hv := hv.set 3 rfl hw2) | (replace hv := hv.set 4 rfl hw2) | (replace hv := hv.set 5 rfl hw2) | (replace hv := hv.set 6 rfl hw2) | (replace hv := hv.set 7 rfl hw2)); clear hw2; simp only [List.set] at hv)
    | ((with_reducible refine at_store (T := 28) ?_); refine wl_stv rfl b8 rfl _ rfl _ (hv.vars.row (by first | exact .head _ | exact .tail _ (.head _) | exact .tail _ (.tail _ (.head _)) | exact .tail _ (.tail _ (.tail _ (.head _))) | exact .tail _ (.tail _ (.tail _ (.tail _ (.head _)))) | exact .tail _ (.tail _ (.tail _ (.tail _ (.tail _ (.head _))))) | exact .tail _ (.tail _ (.tail _ (.tail _ (.tail _ (.tail _ (.head _)))))) | exact .tail _ (.tail _ (.tail _ (.tail _ (.tail _ (.tail _ (.tail _ (.head _))))))))) (hv.vars.sft (by first | exact .head _ | exact .tail _ (.head _) | exact .tail _ (.tail _ (.head _)) | exact .tail _ (.tail _ (.tail _ (.head _))) | exact .tail _ (.tail _ (.tail _ (.tail _ (.head _)))) | exact .tail _ (.tail _ (.tail _ (.tail _ (.tail _ (.head _))))) | exact .tail _ (.tail _ (.tail _ (.tail _ (.tail _ (.tail _ (.head _)))))) | exact .tail _ (.tail _ (.tail _ (.tail _ (.tail _ (.tail _ (.tail _ (.head _))))))))) 1 infoM rfl rfl (by simp [Value.oneCell']) ?_; intro w2 hw2; (first | (replace hv := hv.set 0 rfl hw2) | (replace hv := hv.set 1 rfl hw2) | (replace hv := hv.set 2 rfl hw2) | (replace hv := hv.set 3 rfl hw2) | (replace hv := hv.set 4 rfl hw2) | (replace hv := hv.set 5 rfl hw2) | (replace hv := hv.set 6 rfl hw2) | (replace hv := hv.set 7 rfl hw2)); clear hw2; simp only [List.set] at hv))
  try simp only [Exit.inBlock, Exit.then]
  refine ret_cell1 (v := .agg #[.slice (some ⟨vb, 0, none⟩) mn vc]) rfl rfl (read_row _ b8 28 _ (hv.vars.row (b := b8) (by first | exact .head _ | exact .tail _ (.head _) | exact .tail _ (.tail _ (.head _)) | exact .tail _ (.tail _ (.tail _ (.head _))) | exact .tail _ (.tail _ (.tail _ (.tail _ (.head _)))) | exact .tail _ (.tail _ (.tail _ (.tail _ (.tail _ (.head _))))) | exact .tail _ (.tail _ (.tail _ (.tail _ (.tail _ (.tail _ (.head _)))))) | exact .tail _ (.tail _ (.tail _ (.tail _ (.tail _ (.tail _ (.tail _ (.head _))))))))) 1 _ Tryz.underlying28 rfl infoM (by decide) rfl) rfl ?_
  exact ⟨vb, vc, R1, rfl, hv.drop.drop, HI.out, HS.out⟩
end Go.Proofs.YtcelehhaggoijaaGreat
end

section
/-
  The reference's rings of four and of eight: what is returned, offered.
-/
set_option linter.unusedVariables false
set_option linter.unusedSimpArgs false
namespace Go.Proofs.YtcelehhaggoijaaGreat
open Go.Proofs.Qu Go.Proofs.Nm Go.RowKit Go.Proofs
theorem Rput_2 {w0 w : World} {L : List (Nat × Array Value)} {R : List (Nat × Value × List Value)} {mb mo mn mc : Nat} {M : List Nat} (hv : Mem w0 w L R) (hm : InM R mb mo mn mc M) (p n : Nat) (h : p + 2 ≤ mn) (hn : n < 18446744073709551616) :
    Calls Tryz.prog 51 #[(.agg #[(.slice (some ⟨mb, mo, none⟩) mn mc)]), .int .i64 (p : Nat), .int .i64 2, .int .u64 (n : Nat)] w fun e w' => ∃ b c R', e = .returned (.agg #[.slice (some ⟨b, 0, none⟩) mn c]) ∧ Mem w0 w' L R' ∧ InM R' b 0 mn c (putB M p (leB n 2)) ∧ ∀ x ∈ R, x ∈ R' := Rput_gen hv hm p n 2 (by decide) (by decide) h hn
theorem Rput_4 {w0 w : World} {L : List (Nat × Array Value)} {R : List (Nat × Value × List Value)} {mb mo mn mc : Nat} {M : List Nat} (hv : Mem w0 w L R) (hm : InM R mb mo mn mc M) (p n : Nat) (h : p + 4 ≤ mn) (hn : n < 18446744073709551616) :
    Calls Tryz.prog 51 #[(.agg #[(.slice (some ⟨mb, mo, none⟩) mn mc)]), .int .i64 (p : Nat), .int .i64 4, .int .u64 (n : Nat)] w fun e w' => ∃ b c R', e = .returned (.agg #[.slice (some ⟨b, 0, none⟩) mn c]) ∧ Mem w0 w' L R' ∧ InM R' b 0 mn c (putB M p (leB n 4)) ∧ ∀ x ∈ R, x ∈ R' := Rput_gen hv hm p n 4 (by decide) (by decide) h hn
set_option maxRecDepth 100000 in
set_option maxHeartbeats 4000000 in
theorem RReturn_4 {w0 w : World} {L : List (Nat × Array Value)} {R : List (Nat × Value × List Value)} {mb mo mn mc : Nat} {M : List Nat} (hv : Mem w0 w L R) (hm : InM R mb mo mn mc M) (i id len : Nat) (hb : 112 ≤ mn) (hi : i < 65536) (hid : id < 4294967296) (hlen : len < 4294967296) :
    Calls Tryz.prog 11 #[(.agg #[(.slice (some ⟨mb, mo, none⟩) mn mc)]), .int .i64 0, .int .i64 4, .int .u16 (i : Nat), .agg #[.int .u32 (id : Nat), .int .u32 (len : Nat)]] w fun e w' => ∃ b c R', e = .returned (.tuple #[.agg #[.slice (some ⟨b, 0, none⟩) mn c], .int .i64 0]) ∧ Mem w0 w' L R' ∧ InM R' b 0 mn c (returnM M 0 4 i id len) ∧ ∀ x ∈ R, x ∈ R' := by
  have HM := Lib.hid hm
  have HSUB : Hid (∀ x ∈ R, x ∈ R) := Lib.hid (fun x hx => hx)
  have hok : okN 4 := by unfold okN; omega
  have HC : Hid (∀ w, Calls Tryz.prog 49 #[(.agg #[(.slice (some ⟨mb, mo, none⟩) mn mc)]), .int .i64 0, .int .i64 4] w fun e w' => e = .returned (.bool true) ∧ New w w') := Lib.hid (fun w => RCheck7_ok mb mo mn mc 0 4 hok (by show 0 + 112 ≤ mn; omega) hm.most w)
  have HB : Hid (∀ w, Calls Tryz.prog 50 #[.int .i64 4] w fun e w' => e = .returned (.int .i64 76) ∧ New w w') := Lib.hid (fun w => Rsecond_ok 4 hok w)
  obtain ⟨p, hp⟩ : ∃ p, 0 + (backN 4 + (4 + 8 * (i % 4))) = p := ⟨_, rfl⟩
  obtain ⟨p4, hp4⟩ : ∃ p4, p + 4 = p4 := ⟨_, rfl⟩
  obtain ⟨j, hj⟩ : ∃ j, i + 1 = j := ⟨_, rfl⟩
  have HRM : Hid (∀ M, putB (putB (putB M p (leB id 4)) p4 (leB len 4)) 78 (leB j 2) = returnM M 0 4 i id len) := Lib.hid (fun M => by
    unfold returnM
    rw [hp, hp4, ← hj, leB_mod (i + 1)]
    rfl)
  have hpe : p = 80 + 8 * (i % 4) := by rw [← hp]; show 0 + (76 + (4 + 8 * (i % 4))) = _; omega
  have hpz : 80 + 8 * ((i : Int) % 4) = (p : Int) := by omega
  have q1 : IntKind.i64.wrap ((p : Int) + 4) = (p4 : Int) := by rw [IntWalk.i64_in _ (by omega)]; omega
  have q1w : wrap64 ((p : Int) + 4) = (p4 : Int) := sum_w64 (a := p) (b := 4) hp4 (by omega)
  have q2 : IntKind.u64.wrap (id : Int) = (id : Int) := wrapU64 (by omega)
  have q3 : IntKind.u64.wrap (len : Int) = (len : Int) := wrapU64 (by omega)
  have q4 : IntKind.u64.wrap (i : Int) = (i : Int) := wrapU64 (by omega)
  have q5 : IntKind.u64.wrap ((i : Int) + 1) = (j : Int) := by rw [show (i : Int) + 1 = (j : Int) from by omega]; exact wrapU64 (by omega)
  have HH : Hid (p + 4 ≤ mn) := Lib.hid (by omega)
  have HH1 : Hid (p4 + 4 ≤ mn) := Lib.hid (by omega)
  have HH2 : Hid (78 + 2 ≤ mn) := Lib.hid (by omega)
  have HI : Hid (id < 18446744073709551616) := Lib.hid (by omega)
  have HN : Hid (len < 18446744073709551616) := Lib.hid (by omega)
  have HJ : Hid (j < 18446744073709551616) := Lib.hid (by omega)
  clear hm hp hp4 hpe hj hb hid hlen hok
  go_enter Tryz.func11, Tryz.ntmps11
  go_wp2_with (first
    | ((with_reducible refine at_box (T := 28) (dst := some 5) ?_); refine wl_newb rfl #[(.slice (some ⟨mb, mo, none⟩) mn mc)] 28 (fun _ => rfl) ?_; intro b5 w2 hm2; replace hv := hv.madeAt hm2; clear hm2)
    | ((with_reducible refine at_box (T := 45) (dst := some 9) ?_); refine wl_newb rfl #[.int .u32 (id : Nat), .int .u32 (len : Nat)] 45 (fun _ => rfl) ?_; intro b9 w2 hm2; replace hv := hv.madeAt hm2; clear hm2)
    | ((with_reducible refine at_alloc (T := 28) (dst := some 10) ?_); refine wl_newb rfl #[.slice none 0 0] 28 (fun _ => rfl) ?_; intro b10 w2 hm2; replace hv := hv.madeAt hm2; clear hm2)
    | ((with_reducible refine at_load (T := 28) ?_); refine wl_ldv rfl b5 rfl _ (hv.vars.row (by first | exact .head _ | exact .tail _ (.head _) | exact .tail _ (.tail _ (.head _)) | exact .tail _ (.tail _ (.tail _ (.head _))) | exact .tail _ (.tail _ (.tail _ (.tail _ (.head _)))) | exact .tail _ (.tail _ (.tail _ (.tail _ (.tail _ (.head _))))) | exact .tail _ (.tail _ (.tail _ (.tail _ (.tail _ (.tail _ (.head _)))))) | exact .tail _ (.tail _ (.tail _ (.tail _ (.tail _ (.tail _ (.tail _ (.head _))))))))) 1 _ Tryz.underlying28 rfl infoM (by decide) rfl ?_)
    | (go_at_call 49; (with_reducible refine (HC.out _).mono ?_); rintro e w1 ⟨rfl, hn1⟩; replace hv := hv.new hn1; clear hn1))
  refine Any.wp_region_walk [⟨[], none⟩, ⟨[], none⟩, ⟨[], none⟩, ⟨[], none⟩, ⟨[], none⟩, ⟨[], none⟩, ⟨[], none⟩, ⟨[], none⟩, ⟨[], none⟩, ⟨[], none⟩, ⟨[], none⟩, ⟨[], none⟩] [.val, .val, .val, .val, .val, .val, .val, .val, .val, .val, .val, .val] (by kernel_rfl) (by kernel_rfl) (hv.vars.keep (List.sublist_append_left [(b10, #[.slice none 0 0]), (b9, #[.int .u32 (id : Nat), .int .u32 (len : Nat)]), (b5, #[.slice (some ⟨mb, mo, none⟩) mn mc])] L)) ?_
  simp only [List.length_cons, List.length_nil, Nat.zero_add, Any.someVals]
  iterate 12 apply Exists.intro
  repeat (first
    | (refine Any.E_off rfl ?_; simp only [Act.put, List.setIfInBounds_toArray, List.set_cons_succ, List.set_cons_zero])
    | (apply Any.E_pureq rfl rfl rfl
       case h => intro K hK; go_big_quiet_op; (refine hK _ ?_; rfl)
       case hr => exact fun _ => rfl
       simp only [Act.put, List.setIfInBounds_toArray, List.set_cons_succ, List.set_cons_zero])
    | (apply Any.E_val rfl rfl rfl rfl
       case h =>
         intro E' hA K hK
         first
           | (go_big_quiet_op; first
             | (refine hK _ ?_; rfl)
             | (refine ⟨_, fun _ _ => rfl, ?_⟩; refine hK _ ?_; rfl)
             | (apply Exists.intro; refine ⟨fun w1 hw1 => ?_, ?_⟩; · (first
                 | (go_at_call 50; exact Any.calls_VE (HB.out _) hw1))
                refine hK _ ?_; rfl))
       case hD => rfl
       simp only [Act.put, List.setIfInBounds_toArray, List.set_cons_succ, List.set_cons_zero])
    | ((with_reducible refine Any.at_ealloc ?_); refine Any.E_lay rfl rfl rfl (fun _ => rfl) ?_; intro B; simp only [Act.put, List.setIfInBounds_toArray, List.set_cons_succ, List.set_cons_zero]))
  try any_goals exact undef
  refine Any.E_nil ?_
  intro w9 hE9
  replace hv : Mem w0 w9 ([(b10, #[.slice none 0 0]), (b9, #[.int .u32 (id : Nat), .int .u32 (len : Nat)]), (b5, #[.slice (some ⟨mb, mo, none⟩) mn mc])] ++ L) _ := hE9.memr hv [1000, 1001, 1002] (by decide)
  clear hE9
  simp only [List.cons_append, List.nil_append] at hv
  go_wp2_with (first
    | ((with_reducible refine at_load (T := 28) ?_); refine wl_ldv rfl b5 rfl _ (hv.vars.row (by first | exact .head _ | exact .tail _ (.head _) | exact .tail _ (.tail _ (.head _)) | exact .tail _ (.tail _ (.tail _ (.head _))) | exact .tail _ (.tail _ (.tail _ (.tail _ (.head _)))) | exact .tail _ (.tail _ (.tail _ (.tail _ (.tail _ (.head _))))) | exact .tail _ (.tail _ (.tail _ (.tail _ (.tail _ (.tail _ (.head _)))))) | exact .tail _ (.tail _ (.tail _ (.tail _ (.tail _ (.tail _ (.tail _ (.head _))))))))) 1 _ Tryz.underlying28 rfl infoM (by decide) rfl ?_)
    | ((with_reducible refine at_load (T := 43) ?_); refine wl_ldc rfl b9 0 rfl _ (hv.vars.row (by first | exact .head _ | exact .tail _ (.head _) | exact .tail _ (.tail _ (.head _)) | exact .tail _ (.tail _ (.tail _ (.head _))) | exact .tail _ (.tail _ (.tail _ (.tail _ (.head _)))) | exact .tail _ (.tail _ (.tail _ (.tail _ (.tail _ (.head _))))) | exact .tail _ (.tail _ (.tail _ (.tail _ (.tail _ (.tail _ (.head _)))))) | exact .tail _ (.tail _ (.tail _ (.tail _ (.tail _ (.tail _ (.tail _ (.head _))))))))) _ Tryz.underlying43 rfl (.int .u32 (id : Nat)) rfl ?_)
    | ((with_reducible refine at_load (T := 43) ?_); refine wl_ldc rfl b9 1 rfl _ (hv.vars.row (by first | exact .head _ | exact .tail _ (.head _) | exact .tail _ (.tail _ (.head _)) | exact .tail _ (.tail _ (.tail _ (.head _))) | exact .tail _ (.tail _ (.tail _ (.tail _ (.head _)))) | exact .tail _ (.tail _ (.tail _ (.tail _ (.tail _ (.head _))))) | exact .tail _ (.tail _ (.tail _ (.tail _ (.tail _ (.tail _ (.head _)))))) | exact .tail _ (.tail _ (.tail _ (.tail _ (.tail _ (.tail _ (.tail _ (.head _))))))))) _ Tryz.underlying43 rfl (.int .u32 (len : Nat)) rfl ?_)
    | (go_at_call 51; (with_reducible refine (Rput_4 hv HM.out p id HH.out HI.out).mono ?_); rintro e w1 ⟨vb, vc, R1, rfl, hv1, hi1, hs1⟩; replace hv := hv1; replace HM := Lib.hid hi1; replace HSUB := Lib.hid (fun x hx => hs1 x (HSUB.out x hx)); clear hv1 hi1 hs1)
    | (go_at_call 51; (with_reducible refine (Rput_4 hv HM.out p4 len HH1.out HN.out).mono ?_); rintro e w1 ⟨vb, vc, R1, rfl, hv1, hi1, hs1⟩; replace hv := hv1; replace HM := Lib.hid hi1; replace HSUB := Lib.hid (fun x hx => hs1 x (HSUB.out x hx)); clear hv1 hi1 hs1)
    | ((with_reducible refine at_store (T := 28) ?_); refine wl_stv rfl b5 rfl _ rfl _ (hv.vars.row (by first | exact .head _ | exact .tail _ (.head _) | exact .tail _ (.tail _ (.head _)) | exact .tail _ (.tail _ (.tail _ (.head _))) | exact .tail _ (.tail _ (.tail _ (.tail _ (.head _)))) | exact .tail _ (.tail _ (.tail _ (.tail _ (.tail _ (.head _))))) | exact .tail _ (.tail _ (.tail _ (.tail _ (.tail _ (.tail _ (.head _)))))) | exact .tail _ (.tail _ (.tail _ (.tail _ (.tail _ (.tail _ (.tail _ (.head _))))))))) (hv.vars.sft (by first | exact .head _ | exact .tail _ (.head _) | exact .tail _ (.tail _ (.head _)) | exact .tail _ (.tail _ (.tail _ (.head _))) | exact .tail _ (.tail _ (.tail _ (.tail _ (.head _)))) | exact .tail _ (.tail _ (.tail _ (.tail _ (.tail _ (.head _))))) | exact .tail _ (.tail _ (.tail _ (.tail _ (.tail _ (.tail _ (.head _)))))) | exact .tail _ (.tail _ (.tail _ (.tail _ (.tail _ (.tail _ (.tail _ (.head _))))))))) 1 infoM rfl rfl (by simp [Value.oneCell']) ?_; intro w2 hw2; (first | (replace hv := hv.set 0 rfl hw2) | (replace hv := hv.set 1 rfl hw2) | (replace hv := hv.set 2 rfl hw2) | (replace hv := hv.set 3 rfl hw2) | (replace hv := hv.set 4 rfl hw2) | (replace hv := hv.set 5 rfl hw2) | (replace hv := hv.set 6 rfl hw2) | (replace hv := hv.set 7 rfl hw2)); clear hw2; simp only [List.set] at hv))
  have hv0 := hv
  clear hv
  have hv : Mem w0 _ ([(b10, #[.slice none 0 0]), (b9, #[.int .u32 (id : Nat), .int .u32 (len : Nat)]), (b5, #[.slice (some ⟨vb, 0, none⟩) mn vc])] ++ L) _ := hv0
  clear hv0
  refine Any.wp_region_cut 9 [⟨[1002], none⟩, ⟨[], none⟩, ⟨[], none⟩, ⟨[], none⟩, ⟨[], none⟩, ⟨[], none⟩, ⟨[], none⟩, ⟨[], none⟩, ⟨[], none⟩, ⟨[], none⟩, ⟨[], none⟩, ⟨[], none⟩] [.val, .val, .val, .val, .val, .val, .val, .val, .val] (by kernel_rfl) (by kernel_rfl) (hv.vars.keep (List.sublist_append_left [(b10, #[.slice none 0 0]), (b9, #[.int .u32 (id : Nat), .int .u32 (len : Nat)]), (b5, #[.slice (some ⟨vb, 0, none⟩) mn vc])] L)) ?_
  simp only [Any.someVals, List.take_succ_cons, List.take_zero]
  iterate 9 apply Exists.intro
  repeat (first
    | (refine Any.E_off rfl ?_; simp only [Act.put, List.setIfInBounds_toArray, List.set_cons_succ, List.set_cons_zero])
    | (apply Any.E_pureq rfl rfl rfl
       case h => intro K hK; go_big_quiet_op; (refine hK _ ?_; rfl)
       case hr => exact fun _ => rfl
       simp only [Act.put, List.setIfInBounds_toArray, List.set_cons_succ, List.set_cons_zero])
    | (apply Any.E_val rfl rfl rfl rfl
       case h =>
         intro E' hA K hK
         first
           | ((with_reducible refine Any.at_qload (T := 28) ?_); refine Any.q_ldv 1002 hA (by decide) rfl rfl 1 _ Tryz.underlying28 rfl infoM (by decide) rfl ?_; refine hK _ ?_; rfl)
           | (go_big_quiet_op; first
             | (refine hK _ ?_; rfl)
             | (refine ⟨_, fun _ _ => rfl, ?_⟩; refine hK _ ?_; rfl)
             | (apply Exists.intro; refine ⟨fun w1 hw1 => ?_, ?_⟩; · (first
                 | (go_at_call 50; exact Any.calls_VE (HB.out _) hw1))
                refine hK _ ?_; rfl))
       case hD => rfl
       simp only [Act.put, List.setIfInBounds_toArray, List.set_cons_succ, List.set_cons_zero])
    | ((with_reducible refine Any.at_ealloc ?_); refine Any.E_lay rfl rfl rfl (fun _ => rfl) ?_; intro B; simp only [Act.put, List.setIfInBounds_toArray, List.set_cons_succ, List.set_cons_zero])
    | ((with_reducible refine Any.at_estore (T := 28) ?_); refine Any.E_putv (T := 28) rfl rfl rfl rfl rfl rfl 1 infoM rfl rfl (by simp [Value.oneCell']) ?_; simp only [Act.put, List.setIfInBounds_toArray, List.set_cons_succ, List.set_cons_zero]))
  try any_goals exact undef
  refine Any.E_nil ?_
  intro w9 hE9
  replace hv : Mem w0 w9 ([(b10, #[.slice none 0 0]), (b9, #[.int .u32 (id : Nat), .int .u32 (len : Nat)]), (b5, #[.slice (some ⟨vb, 0, none⟩) mn vc])] ++ L) _ := hE9.memr (L1 := [(b10, #[.slice none 0 0]), (b9, #[.int .u32 (id : Nat), .int .u32 (len : Nat)]), (b5, #[.slice (some ⟨vb, 0, none⟩) mn vc])]) hv [1000, 1001, 1002] (by decide)
  clear hE9
  refine Any.wpOp_callv rfl rfl (Go.Proofs.enters_of Tryz.func51 (by kernel_rfl) rfl) rfl [.agg #[.slice (some ⟨vb, 0, none⟩) mn vc], .int .i64 ((78 : Nat)), .int .i64 2, .int .u64 ((j : Nat))] rfl ?_
  refine (Rput_2 hv HM.out _ _ HH2.out HJ.out).mono ?_
  rintro e w1 ⟨vb2, vc2, R1, rfl, hv1, hi1, hs1⟩
  replace hv := hv1
  replace HM := Lib.hid hi1
  replace HSUB := Lib.hid (fun x hx => hs1 x (HSUB.out x hx))
  clear hv1 hi1 hs1
  refine ⟨_, rfl, ?_⟩
  have hv0 := hv
  clear hv
  have hv : Mem w0 _ ([(b10, #[.slice none 0 0]), (b9, #[.int .u32 (id : Nat), .int .u32 (len : Nat)]), (b5, #[.slice (some ⟨vb, 0, none⟩) mn vc])] ++ L) _ := hv0
  clear hv0
  refine Any.wpAny_rest 10 [⟨[1000], some 1000⟩, ⟨[], none⟩] [.put, .val] (by kernel_rfl) (hv.vars.keep (List.sublist_append_left [(b10, #[.slice none 0 0]), (b9, #[.int .u32 (id : Nat), .int .u32 (len : Nat)]), (b5, #[.slice (some ⟨vb, 0, none⟩) mn vc])] L)) ?_
  simp only [List.length_cons, List.length_nil, Nat.zero_add, Nat.reduceAdd, Nat.reduceSub, Any.someVals, List.drop_succ_cons, List.drop_zero]
  simp only [Act.put, List.setIfInBounds_toArray, List.set_cons_succ, List.set_cons_zero]
  iterate 2 apply Exists.intro
  repeat (first
    | (refine Any.E_off rfl ?_; simp only [Act.put, List.setIfInBounds_toArray, List.set_cons_succ, List.set_cons_zero])
    | (apply Any.E_pureq rfl rfl rfl
       case h => intro K hK; go_big_quiet_op; (refine hK _ ?_; rfl)
       case hr => exact fun _ => rfl
       simp only [Act.put, List.setIfInBounds_toArray, List.set_cons_succ, List.set_cons_zero])
    | (apply Any.E_val rfl rfl rfl rfl
       case h =>
         intro E' hA K hK
         first
           | ((with_reducible refine Any.at_qload (T := 28) ?_); refine Any.q_ldv 1002 hA (by decide) rfl rfl 1 _ Tryz.underlying28 rfl infoM (by decide) rfl ?_; refine hK _ ?_; rfl)
           | (go_big_quiet_op; first
             | (refine hK _ ?_; rfl)
             | (refine ⟨_, fun _ _ => rfl, ?_⟩; refine hK _ ?_; rfl)
             | (apply Exists.intro; refine ⟨fun w1 hw1 => ?_, ?_⟩; · (first
                 | (go_at_call 50; exact Any.calls_VE (HB.out _) hw1))
                refine hK _ ?_; rfl))
       case hD => rfl
       simp only [Act.put, List.setIfInBounds_toArray, List.set_cons_succ, List.set_cons_zero])
    | ((with_reducible refine Any.at_ealloc ?_); refine Any.E_lay rfl rfl rfl (fun _ => rfl) ?_; intro B; simp only [Act.put, List.setIfInBounds_toArray, List.set_cons_succ, List.set_cons_zero])
    | ((with_reducible refine Any.at_estore (T := 28) ?_); refine Any.E_putv (T := 28) rfl rfl rfl rfl rfl rfl 1 infoM rfl rfl (by simp [Value.oneCell']) ?_; simp only [Act.put, List.setIfInBounds_toArray, List.set_cons_succ, List.set_cons_zero]))
  try any_goals exact undef
  refine Any.E_nil ?_
  intro w9 hE9
  replace hv : Mem w0 w9 ([(b10, #[.slice (some ⟨vb2, 0, none⟩) mn vc2]), (b9, #[.int .u32 (id : Nat), .int .u32 (len : Nat)]), (b5, #[.slice (some ⟨vb, 0, none⟩) mn vc])] ++ L) _ := hE9.memr0 (L1 := [(b10, #[.slice none 0 0]), (b9, #[.int .u32 (id : Nat), .int .u32 (len : Nat)]), (b5, #[.slice (some ⟨vb, 0, none⟩) mn vc])]) hv [1000, 1001, 1002] (by decide)
  clear hE9
  simp only [List.cons_append, List.nil_append] at hv
  go_wp2
  try simp only [Exit.inBlock, Exit.then]
  refine ret_cell2 (v := .agg #[.slice (some ⟨vb2, 0, none⟩) mn vc2]) (v1 := .int .i64 0) rfl rfl (read_row _ b10 28 _ (hv.vars.row (b := b10) (by first | exact .head _ | exact .tail _ (.head _) | exact .tail _ (.tail _ (.head _)) | exact .tail _ (.tail _ (.tail _ (.head _))) | exact .tail _ (.tail _ (.tail _ (.tail _ (.head _)))) | exact .tail _ (.tail _ (.tail _ (.tail _ (.tail _ (.head _))))) | exact .tail _ (.tail _ (.tail _ (.tail _ (.tail _ (.tail _ (.head _)))))) | exact .tail _ (.tail _ (.tail _ (.tail _ (.tail _ (.tail _ (.tail _ (.head _))))))))) 1 _ Tryz.underlying28 rfl infoM (by decide) rfl) rfl rfl ?_
  exact ⟨vb2, vc2, R1, rfl, hv.drop.drop.drop, HRM.out M ▸ HM.out, HSUB.out⟩
set_option maxRecDepth 100000 in
set_option maxHeartbeats 4000000 in
theorem RReturn_8 {w0 w : World} {L : List (Nat × Array Value)} {R : List (Nat × Value × List Value)} {mb mo mn mc : Nat} {M : List Nat} (hv : Mem w0 w L R) (hm : InM R mb mo mn mc M) (i id len : Nat) (hb : 216 ≤ mn) (hi : i < 65536) (hid : id < 4294967296) (hlen : len < 4294967296) :
    Calls Tryz.prog 11 #[(.agg #[(.slice (some ⟨mb, mo, none⟩) mn mc)]), .int .i64 0, .int .i64 8, .int .u16 (i : Nat), .agg #[.int .u32 (id : Nat), .int .u32 (len : Nat)]] w fun e w' => ∃ b c R', e = .returned (.tuple #[.agg #[.slice (some ⟨b, 0, none⟩) mn c], .int .i64 0]) ∧ Mem w0 w' L R' ∧ InM R' b 0 mn c (returnM M 0 8 i id len) ∧ ∀ x ∈ R, x ∈ R' := by
  have HM := Lib.hid hm
  have HSUB : Hid (∀ x ∈ R, x ∈ R) := Lib.hid (fun x hx => hx)
  have hok : okN 8 := by unfold okN; omega
  have HC : Hid (∀ w, Calls Tryz.prog 49 #[(.agg #[(.slice (some ⟨mb, mo, none⟩) mn mc)]), .int .i64 0, .int .i64 8] w fun e w' => e = .returned (.bool true) ∧ New w w') := Lib.hid (fun w => RCheck7_ok mb mo mn mc 0 8 hok (by show 0 + 216 ≤ mn; omega) hm.most w)
  have HB : Hid (∀ w, Calls Tryz.prog 50 #[.int .i64 8] w fun e w' => e = .returned (.int .i64 148) ∧ New w w') := Lib.hid (fun w => Rsecond_ok 8 hok w)
  obtain ⟨p, hp⟩ : ∃ p, 0 + (backN 8 + (4 + 8 * (i % 8))) = p := ⟨_, rfl⟩
  obtain ⟨p4, hp4⟩ : ∃ p4, p + 4 = p4 := ⟨_, rfl⟩
  obtain ⟨j, hj⟩ : ∃ j, i + 1 = j := ⟨_, rfl⟩
  have HRM : Hid (∀ M, putB (putB (putB M p (leB id 4)) p4 (leB len 4)) 150 (leB j 2) = returnM M 0 8 i id len) := Lib.hid (fun M => by
    unfold returnM
    rw [hp, hp4, ← hj, leB_mod (i + 1)]
    rfl)
  have hpe : p = 152 + 8 * (i % 8) := by rw [← hp]; show 0 + (148 + (4 + 8 * (i % 8))) = _; omega
  have hpz : 152 + 8 * ((i : Int) % 8) = (p : Int) := by omega
  have q1 : IntKind.i64.wrap ((p : Int) + 4) = (p4 : Int) := by rw [IntWalk.i64_in _ (by omega)]; omega
  have q1w : wrap64 ((p : Int) + 4) = (p4 : Int) := sum_w64 (a := p) (b := 4) hp4 (by omega)
  have q2 : IntKind.u64.wrap (id : Int) = (id : Int) := wrapU64 (by omega)
  have q3 : IntKind.u64.wrap (len : Int) = (len : Int) := wrapU64 (by omega)
  have q4 : IntKind.u64.wrap (i : Int) = (i : Int) := wrapU64 (by omega)
  have q5 : IntKind.u64.wrap ((i : Int) + 1) = (j : Int) := by rw [show (i : Int) + 1 = (j : Int) from by omega]; exact wrapU64 (by omega)
  have HH : Hid (p + 4 ≤ mn) := Lib.hid (by omega)
  have HH1 : Hid (p4 + 4 ≤ mn) := Lib.hid (by omega)
  have HH2 : Hid (150 + 2 ≤ mn) := Lib.hid (by omega)
  have HI : Hid (id < 18446744073709551616) := Lib.hid (by omega)
  have HN : Hid (len < 18446744073709551616) := Lib.hid (by omega)
  have HJ : Hid (j < 18446744073709551616) := Lib.hid (by omega)
  clear hm hp hp4 hpe hj hb hid hlen hok
  go_enter Tryz.func11, Tryz.ntmps11
  go_wp2_with (first
    | ((with_reducible refine at_box (T := 28) (dst := some 5) ?_); refine wl_newb rfl #[(.slice (some ⟨mb, mo, none⟩) mn mc)] 28 (fun _ => rfl) ?_; intro b5 w2 hm2; replace hv := hv.madeAt hm2; clear hm2)
    | ((with_reducible refine at_box (T := 45) (dst := some 9) ?_); refine wl_newb rfl #[.int .u32 (id : Nat), .int .u32 (len : Nat)] 45 (fun _ => rfl) ?_; intro b9 w2 hm2; replace hv := hv.madeAt hm2; clear hm2)
    | ((with_reducible refine at_alloc (T := 28) (dst := some 10) ?_); refine wl_newb rfl #[.slice none 0 0] 28 (fun _ => rfl) ?_; intro b10 w2 hm2; replace hv := hv.madeAt hm2; clear hm2)
    | ((with_reducible refine at_load (T := 28) ?_); refine wl_ldv rfl b5 rfl _ (hv.vars.row (by first | exact .head _ | exact .tail _ (.head _) | exact .tail _ (.tail _ (.head _)) | exact .tail _ (.tail _ (.tail _ (.head _))) | exact .tail _ (.tail _ (.tail _ (.tail _ (.head _)))) | exact .tail _ (.tail _ (.tail _ (.tail _ (.tail _ (.head _))))) | exact .tail _ (.tail _ (.tail _ (.tail _ (.tail _ (.tail _ (.head _)))))) | exact .tail _ (.tail _ (.tail _ (.tail _ (.tail _ (.tail _ (.tail _ (.head _))))))))) 1 _ Tryz.underlying28 rfl infoM (by decide) rfl ?_)
    | (go_at_call 49; (with_reducible refine (HC.out _).mono ?_); rintro e w1 ⟨rfl, hn1⟩; replace hv := hv.new hn1; clear hn1))
  refine Any.wp_region_walk [⟨[], none⟩, ⟨[], none⟩, ⟨[], none⟩, ⟨[], none⟩, ⟨[], none⟩, ⟨[], none⟩, ⟨[], none⟩, ⟨[], none⟩, ⟨[], none⟩, ⟨[], none⟩, ⟨[], none⟩, ⟨[], none⟩] [.val, .val, .val, .val, .val, .val, .val, .val, .val, .val, .val, .val] (by kernel_rfl) (by kernel_rfl) (hv.vars.keep (List.sublist_append_left [(b10, #[.slice none 0 0]), (b9, #[.int .u32 (id : Nat), .int .u32 (len : Nat)]), (b5, #[.slice (some ⟨mb, mo, none⟩) mn mc])] L)) ?_
  simp only [List.length_cons, List.length_nil, Nat.zero_add, Any.someVals]
  iterate 12 apply Exists.intro
  repeat (first
    | (refine Any.E_off rfl ?_; simp only [Act.put, List.setIfInBounds_toArray, List.set_cons_succ, List.set_cons_zero])
    | (apply Any.E_pureq rfl rfl rfl
       case h => intro K hK; go_big_quiet_op; (refine hK _ ?_; rfl)
       case hr => exact fun _ => rfl
       simp only [Act.put, List.setIfInBounds_toArray, List.set_cons_succ, List.set_cons_zero])
    | (apply Any.E_val rfl rfl rfl rfl
       case h =>
         intro E' hA K hK
         first
           | (go_big_quiet_op; first
             | (refine hK _ ?_; rfl)
             | (refine ⟨_, fun _ _ => rfl, ?_⟩; refine hK _ ?_; rfl)
             | (apply Exists.intro; refine ⟨fun w1 hw1 => ?_, ?_⟩; · (first
                 | (go_at_call 50; exact Any.calls_VE (HB.out _) hw1))
                refine hK _ ?_; rfl))
       case hD => rfl
       simp only [Act.put, List.setIfInBounds_toArray, List.set_cons_succ, List.set_cons_zero])
    | ((with_reducible refine Any.at_ealloc ?_); refine Any.E_lay rfl rfl rfl (fun _ => rfl) ?_; intro B; simp only [Act.put, List.setIfInBounds_toArray, List.set_cons_succ, List.set_cons_zero]))
  try any_goals exact undef
  refine Any.E_nil ?_
  intro w9 hE9
  replace hv : Mem w0 w9 ([(b10, #[.slice none 0 0]), (b9, #[.int .u32 (id : Nat), .int .u32 (len : Nat)]), (b5, #[.slice (some ⟨mb, mo, none⟩) mn mc])] ++ L) _ := hE9.memr hv [1000, 1001, 1002] (by decide)
  clear hE9
  simp only [List.cons_append, List.nil_append] at hv
  go_wp2_with (first
    | ((with_reducible refine at_load (T := 28) ?_); refine wl_ldv rfl b5 rfl _ (hv.vars.row (by first | exact .head _ | exact .tail _ (.head _) | exact .tail _ (.tail _ (.head _)) | exact .tail _ (.tail _ (.tail _ (.head _))) | exact .tail _ (.tail _ (.tail _ (.tail _ (.head _)))) | exact .tail _ (.tail _ (.tail _ (.tail _ (.tail _ (.head _))))) | exact .tail _ (.tail _ (.tail _ (.tail _ (.tail _ (.tail _ (.head _)))))) | exact .tail _ (.tail _ (.tail _ (.tail _ (.tail _ (.tail _ (.tail _ (.head _))))))))) 1 _ Tryz.underlying28 rfl infoM (by decide) rfl ?_)
    | ((with_reducible refine at_load (T := 43) ?_); refine wl_ldc rfl b9 0 rfl _ (hv.vars.row (by first | exact .head _ | exact .tail _ (.head _) | exact .tail _ (.tail _ (.head _)) | exact .tail _ (.tail _ (.tail _ (.head _))) | exact .tail _ (.tail _ (.tail _ (.tail _ (.head _)))) | exact .tail _ (.tail _ (.tail _ (.tail _ (.tail _ (.head _))))) | exact .tail _ (.tail _ (.tail _ (.tail _ (.tail _ (.tail _ (.head _)))))) | exact .tail _ (.tail _ (.tail _ (.tail _ (.tail _ (.tail _ (.tail _ (.head _))))))))) _ Tryz.underlying43 rfl (.int .u32 (id : Nat)) rfl ?_)
    | ((with_reducible refine at_load (T := 43) ?_); refine wl_ldc rfl b9 1 rfl _ (hv.vars.row (by first | exact .head _ | exact .tail _ (.head _) | exact .tail _ (.tail _ (.head _)) | exact .tail _ (.tail _ (.tail _ (.head _))) | exact .tail _ (.tail _ (.tail _ (.tail _ (.head _)))) | exact .tail _ (.tail _ (.tail _ (.tail _ (.tail _ (.head _))))) | exact .tail _ (.tail _ (.tail _ (.tail _ (.tail _ (.tail _ (.head _)))))) | exact .tail _ (.tail _ (.tail _ (.tail _ (.tail _ (.tail _ (.tail _ (.head _))))))))) _ Tryz.underlying43 rfl (.int .u32 (len : Nat)) rfl ?_)
    | (go_at_call 51; (with_reducible refine (Rput_4 hv HM.out p id HH.out HI.out).mono ?_); rintro e w1 ⟨vb, vc, R1, rfl, hv1, hi1, hs1⟩; replace hv := hv1; replace HM := Lib.hid hi1; replace HSUB := Lib.hid (fun x hx => hs1 x (HSUB.out x hx)); clear hv1 hi1 hs1)
    | (go_at_call 51; (with_reducible refine (Rput_4 hv HM.out p4 len HH1.out HN.out).mono ?_); rintro e w1 ⟨vb, vc, R1, rfl, hv1, hi1, hs1⟩; replace hv := hv1; replace HM := Lib.hid hi1; replace HSUB := Lib.hid (fun x hx => hs1 x (HSUB.out x hx)); clear hv1 hi1 hs1)
    | ((with_reducible refine at_store (T := 28) ?_); refine wl_stv rfl b5 rfl _ rfl _ (hv.vars.row (by first | exact .head _ | exact .tail _ (.head _) | exact .tail _ (.tail _ (.head _)) | exact .tail _ (.tail _ (.tail _ (.head _))) | exact .tail _ (.tail _ (.tail _ (.tail _ (.head _)))) | exact .tail _ (.tail _ (.tail _ (.tail _ (.tail _ (.head _))))) | exact .tail _ (.tail _ (.tail _ (.tail _ (.tail _ (.tail _ (.head _)))))) | exact .tail _ (.tail _ (.tail _ (.tail _ (.tail _ (.tail _ (.tail _ (.head _))))))))) (hv.vars.sft (by first | exact .head _ | exact .tail _ (.head _) | exact .tail _ (.tail _ (.head _)) | exact .tail _ (.tail _ (.tail _ (.head _))) | exact .tail _ (.tail _ (.tail _ (.tail _ (.head _)))) | exact .tail _ (.tail _ (.tail _ (.tail _ (.tail _ (.head _))))) | exact .tail _ (.tail _ (.tail _ (.tail _ (.tail _ (.tail _ (.head _)))))) | exact .tail _ (.tail _ (.tail _ (.tail _ (.tail _ (.tail _ (.tail _ (.head _))))))))) 1 infoM rfl rfl (by simp [Value.oneCell']) ?_; intro w2 hw2; (first | (replace hv := hv.set 0 rfl hw2) | (replace hv := hv.set 1 rfl hw2) | (replace hv := hv.set 2 rfl hw2) | (replace hv := hv.set 3 rfl hw2) | (replace hv := hv.set 4 rfl hw2) | (replace hv := hv.set 5 rfl hw2) | (replace hv := hv.set 6 rfl hw2) | (replace hv := hv.set 7 rfl hw2)); clear hw2; simp only [List.set] at hv))
  have hv0 := hv
  clear hv
  have hv : Mem w0 _ ([(b10, #[.slice none 0 0]), (b9, #[.int .u32 (id : Nat), .int .u32 (len : Nat)]), (b5, #[.slice (some ⟨vb, 0, none⟩) mn vc])] ++ L) _ := hv0
  clear hv0
  refine Any.wp_region_cut 9 [⟨[1002], none⟩, ⟨[], none⟩, ⟨[], none⟩, ⟨[], none⟩, ⟨[], none⟩, ⟨[], none⟩, ⟨[], none⟩, ⟨[], none⟩, ⟨[], none⟩, ⟨[], none⟩, ⟨[], none⟩, ⟨[], none⟩] [.val, .val, .val, .val, .val, .val, .val, .val, .val] (by kernel_rfl) (by kernel_rfl) (hv.vars.keep (List.sublist_append_left [(b10, #[.slice none 0 0]), (b9, #[.int .u32 (id : Nat), .int .u32 (len : Nat)]), (b5, #[.slice (some ⟨vb, 0, none⟩) mn vc])] L)) ?_
  simp only [Any.someVals, List.take_succ_cons, List.take_zero]
  iterate 9 apply Exists.intro
  repeat (first
    | (refine Any.E_off rfl ?_; simp only [Act.put, List.setIfInBounds_toArray, List.set_cons_succ, List.set_cons_zero])
    | (apply Any.E_pureq rfl rfl rfl
       case h => intro K hK; go_big_quiet_op; (refine hK _ ?_; rfl)
       case hr => exact fun _ => rfl
       simp only [Act.put, List.setIfInBounds_toArray, List.set_cons_succ, List.set_cons_zero])
    | (apply Any.E_val rfl rfl rfl rfl
       case h =>
         intro E' hA K hK
         first
           | ((with_reducible refine Any.at_qload (T := 28) ?_); refine Any.q_ldv 1002 hA (by decide) rfl rfl 1 _ Tryz.underlying28 rfl infoM (by decide) rfl ?_; refine hK _ ?_; rfl)
           | (go_big_quiet_op; first
             | (refine hK _ ?_; rfl)
             | (refine ⟨_, fun _ _ => rfl, ?_⟩; refine hK _ ?_; rfl)
             | (apply Exists.intro; refine ⟨fun w1 hw1 => ?_, ?_⟩; · (first
                 | (go_at_call 50; exact Any.calls_VE (HB.out _) hw1))
                refine hK _ ?_; rfl))
       case hD => rfl
       simp only [Act.put, List.setIfInBounds_toArray, List.set_cons_succ, List.set_cons_zero])
    | ((with_reducible refine Any.at_ealloc ?_); refine Any.E_lay rfl rfl rfl (fun _ => rfl) ?_; intro B; simp only [Act.put, List.setIfInBounds_toArray, List.set_cons_succ, List.set_cons_zero])
    | ((with_reducible refine Any.at_estore (T := 28) ?_); refine Any.E_putv (T := 28) rfl rfl rfl rfl rfl rfl 1 infoM rfl rfl (by simp [Value.oneCell']) ?_; simp only [Act.put, List.setIfInBounds_toArray, List.set_cons_succ, List.set_cons_zero]))
  try any_goals exact undef
  refine Any.E_nil ?_
  intro w9 hE9
  replace hv : Mem w0 w9 ([(b10, #[.slice none 0 0]), (b9, #[.int .u32 (id : Nat), .int .u32 (len : Nat)]), (b5, #[.slice (some ⟨vb, 0, none⟩) mn vc])] ++ L) _ := hE9.memr (L1 := [(b10, #[.slice none 0 0]), (b9, #[.int .u32 (id : Nat), .int .u32 (len : Nat)]), (b5, #[.slice (some ⟨vb, 0, none⟩) mn vc])]) hv [1000, 1001, 1002] (by decide)
  clear hE9
  refine Any.wpOp_callv rfl rfl (Go.Proofs.enters_of Tryz.func51 (by kernel_rfl) rfl) rfl [.agg #[.slice (some ⟨vb, 0, none⟩) mn vc], .int .i64 ((150 : Nat)), .int .i64 2, .int .u64 ((j : Nat))] rfl ?_
  refine (Rput_2 hv HM.out _ _ HH2.out HJ.out).mono ?_
  rintro e w1 ⟨vb2, vc2, R1, rfl, hv1, hi1, hs1⟩
  replace hv := hv1
  replace HM := Lib.hid hi1
  replace HSUB := Lib.hid (fun x hx => hs1 x (HSUB.out x hx))
  clear hv1 hi1 hs1
  refine ⟨_, rfl, ?_⟩
  have hv0 := hv
  clear hv
  have hv : Mem w0 _ ([(b10, #[.slice none 0 0]), (b9, #[.int .u32 (id : Nat), .int .u32 (len : Nat)]), (b5, #[.slice (some ⟨vb, 0, none⟩) mn vc])] ++ L) _ := hv0
  clear hv0
  refine Any.wpAny_rest 10 [⟨[1000], some 1000⟩, ⟨[], none⟩] [.put, .val] (by kernel_rfl) (hv.vars.keep (List.sublist_append_left [(b10, #[.slice none 0 0]), (b9, #[.int .u32 (id : Nat), .int .u32 (len : Nat)]), (b5, #[.slice (some ⟨vb, 0, none⟩) mn vc])] L)) ?_
  simp only [List.length_cons, List.length_nil, Nat.zero_add, Nat.reduceAdd, Nat.reduceSub, Any.someVals, List.drop_succ_cons, List.drop_zero]
  simp only [Act.put, List.setIfInBounds_toArray, List.set_cons_succ, List.set_cons_zero]
  iterate 2 apply Exists.intro
  repeat (first
    | (refine Any.E_off rfl ?_; simp only [Act.put, List.setIfInBounds_toArray, List.set_cons_succ, List.set_cons_zero])
    | (apply Any.E_pureq rfl rfl rfl
       case h => intro K hK; go_big_quiet_op; (refine hK _ ?_; rfl)
       case hr => exact fun _ => rfl
       simp only [Act.put, List.setIfInBounds_toArray, List.set_cons_succ, List.set_cons_zero])
    | (apply Any.E_val rfl rfl rfl rfl
       case h =>
         intro E' hA K hK
         first
           | ((with_reducible refine Any.at_qload (T := 28) ?_); refine Any.q_ldv 1002 hA (by decide) rfl rfl 1 _ Tryz.underlying28 rfl infoM (by decide) rfl ?_; refine hK _ ?_; rfl)
           | (go_big_quiet_op; first
             | (refine hK _ ?_; rfl)
             | (refine ⟨_, fun _ _ => rfl, ?_⟩; refine hK _ ?_; rfl)
             | (apply Exists.intro; refine ⟨fun w1 hw1 => ?_, ?_⟩; · (first
                 | (go_at_call 50; exact Any.calls_VE (HB.out _) hw1))
                refine hK _ ?_; rfl))
       case hD => rfl
       simp only [Act.put, List.setIfInBounds_toArray, List.set_cons_succ, List.set_cons_zero])
    | ((with_reducible refine Any.at_ealloc ?_); refine Any.E_lay rfl rfl rfl (fun _ => rfl) ?_; intro B; simp only [Act.put, List.setIfInBounds_toArray, List.set_cons_succ, List.set_cons_zero])
    | ((with_reducible refine Any.at_estore (T := 28) ?_); refine Any.E_putv (T := 28) rfl rfl rfl rfl rfl rfl 1 infoM rfl rfl (by simp [Value.oneCell']) ?_; simp only [Act.put, List.setIfInBounds_toArray, List.set_cons_succ, List.set_cons_zero]))
  try any_goals exact undef
  refine Any.E_nil ?_
  intro w9 hE9
  replace hv : Mem w0 w9 ([(b10, #[.slice (some ⟨vb2, 0, none⟩) mn vc2]), (b9, #[.int .u32 (id : Nat), .int .u32 (len : Nat)]), (b5, #[.slice (some ⟨vb, 0, none⟩) mn vc])] ++ L) _ := hE9.memr0 (L1 := [(b10, #[.slice none 0 0]), (b9, #[.int .u32 (id : Nat), .int .u32 (len : Nat)]), (b5, #[.slice (some ⟨vb, 0, none⟩) mn vc])]) hv [1000, 1001, 1002] (by decide)
  clear hE9
  simp only [List.cons_append, List.nil_append] at hv
  go_wp2
  try simp only [Exit.inBlock, Exit.then]
  refine ret_cell2 (v := .agg #[.slice (some ⟨vb2, 0, none⟩) mn vc2]) (v1 := .int .i64 0) rfl rfl (read_row _ b10 28 _ (hv.vars.row (b := b10) (by first | exact .head _ | exact .tail _ (.head _) | exact .tail _ (.tail _ (.head _)) | exact .tail _ (.tail _ (.tail _ (.head _))) | exact .tail _ (.tail _ (.tail _ (.tail _ (.head _)))) | exact .tail _ (.tail _ (.tail _ (.tail _ (.tail _ (.head _))))) | exact .tail _ (.tail _ (.tail _ (.tail _ (.tail _ (.tail _ (.head _)))))) | exact .tail _ (.tail _ (.tail _ (.tail _ (.tail _ (.tail _ (.tail _ (.head _))))))))) 1 _ Tryz.underlying28 rfl infoM (by decide) rfl) rfl rfl ?_
  exact ⟨vb2, vc2, R1, rfl, hv.drop.drop.drop, HRM.out M ▸ HM.out, HSUB.out⟩
end Go.Proofs.YtcelehhaggoijaaGreat
end
