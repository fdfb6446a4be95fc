/-
  The walk of the statement PageAll.
-/
import Derived.Test.YthpodinbbmgfoaaPgLaw
import Derived.Test.YthpodinbbmgfoaaPgPlain
import Derived.Test.YthpodinbbmgfoaaFamV
import Derived.Test.YthpodinbbmgfoaaRd
set_option linter.unusedVariables false
namespace Go
theorem Vars.drop {w0 w : World} {x : Nat × Array Value} {L : List (Nat × Array Value)} (h : Vars w0 w (x :: L)) : Vars w0 w L :=
  ⟨h.below, fun p hp => h.rows p (List.mem_cons_of_mem _ hp), by have := h.apart; rw [List.map_cons, List.nodup_cons] at this; exact this.2⟩
end Go
namespace Go.Proofs.Ythpodinbbmgfoaa
open Go.Proofs.Pg Go.RowKit

set_option maxRecDepth 100000 in
set_option maxHeartbeats 4000000 in
theorem PageAll_walk (ao : Option Addr) (len cap : Nat) (zs : Nat → Int) (w : World) (hlen : len ≤ 40) (hcell : ∀ k, k < len → ∃ A0 o0, ao = some ⟨A0, o0, none⟩ ∧ A0 < w.heap.size ∧ w.cell? ⟨A0, o0 + k, none⟩ = some (.int .i64 (zs k))) :
    Calls Try.prog 8 #[.slice ao len cap] w fun e w' => e = .returned (.bool true) ∧ New w w' := by
  have hl : ¬ (40 : Int) < (len : Int) := by omega
  have HC := Lib.hid hcell; clear hcell
  obtain ⟨W, hW⟩ : ∃ W : World, w.alloc (.cells Try.zeroCells36 36) = W := ⟨_, rfl⟩
  have hv := Vars.nil w
  have hm0 := made_alloc w Try.zeroCells36 36
  rw [hW, zeroPs] at hm0
  replace hv := hv.made hm0
  clear hm0
  go_enter Try.func8, Try.ntmps8
  go_wp2
  go_loopw [4] (fun i wr => ∃ (k : Nat) (b : Nat → Bool) (q : Nat → Nat → Nat), k ≤ 16 ∧ i = .int .i64 k ∧ firstK b k ∧ Vars w wr [(w.heap.size, pg b q)]) (fun i _ => 16 - (intOf i).toNat)
  case atStart => exact ⟨0, _, _, by omega, rfl, firstK_zero, hv⟩
  case round =>
    clear hv
    obtain ⟨k, b, q, hk, rfl, hf, hv⟩ := hrel
    have HF := Lib.hid hf; clear hf
    by_cases hk2 : k < 16
    · have hki : (k : Int) < 16 := by omega
      obtain ⟨g1, g2, g3⟩ := firstK_take HF.out hk2
      have kT : ∀ w, Calls Try.prog 45 #[.agg (pg b q)] w fun e w' => e = .returned (.tuple #[.agg (pg (takeB b) (takeQ b q)), .int .i64 (k : Int), .int .i64 0]) ∧ New w w' := fun w => by
        have := Take_any b q w
        rw [g2, g3] at this; exact this
      have G1 := Lib.hid g1; clear g1 g2 g3
      go_wp2_with (first
        | ((with_reducible refine at_ld36 ?_); refine ldl_pg _ rfl _ _ (hv.row (by first | exact .head _ | exact .tail _ (.head _) | exact .tail _ (.tail _ (.head _)) | exact .tail _ (.tail _ (.tail _ (.head _))) | exact .tail _ (.tail _ (.tail _ (.tail _ (.head _)))) | exact .tail _ (.tail _ (.tail _ (.tail _ (.tail _ (.head _))))))) ?_)
        | ((with_reducible refine at_new36 ?_); refine stl_new_pg rfl _ _ rfl ?_; intro w2 hm2; replace hv := hv.made hm2; clear hm2)
        | ((with_reducible refine at_st36 ?_); refine stl_pg _ _ _ rfl rfl _ _ (hv.row (by first | exact .head _ | exact .tail _ (.head _) | exact .tail _ (.tail _ (.head _)) | exact .tail _ (.tail _ (.tail _ (.head _))) | exact .tail _ (.tail _ (.tail _ (.tail _ (.head _)))) | exact .tail _ (.tail _ (.tail _ (.tail _ (.tail _ (.head _))))))) (hv.sft (by first | exact .head _ | exact .tail _ (.head _) | exact .tail _ (.tail _ (.head _)) | exact .tail _ (.tail _ (.tail _ (.head _))) | exact .tail _ (.tail _ (.tail _ (.tail _ (.head _)))) | exact .tail _ (.tail _ (.tail _ (.tail _ (.tail _ (.head _))))))) ?_; intro w2 hw2; replace hv := hv.set 1 rfl hw2; clear hw2; simp only [List.set] at hv)
        | (go_at_call 45; (with_reducible refine (kT _).mono ?_); rintro e w1 ⟨rfl, hn1⟩; replace hv := hv.new hn1; clear hn1))
      go_roundw
      case rel => exact ⟨k + 1, _, _, by omega, by go_num, G1.out, hv.drop⟩
      case measure => simp [intOf]; omega
    · have hki : ¬ (k : Int) < 16 := by omega
      have hk16 : k = 16 := by omega
      subst hk16
      have hff := firstK_all HF.out
      obtain ⟨e1, e2, e3, e4⟩ := take_full (q := q) hff
      have hcnt := cnt_full hff
      have kT : ∀ w, Calls Try.prog 45 #[.agg (pg b q)] w fun e w' => e = .returned (.tuple #[.agg (pg b q), .int .i64 0, .int .i64 4]) ∧ New w w' := fun w => by
        have := Take_any b q w
        rw [e1, e2, e3, e4] at this; exact this
      clear e1 e2 e3 e4 hff HF
      have HCN := Lib.hid hcnt; clear hcnt
      go_wp2_with (first
        | ((with_reducible refine at_ld36 ?_); refine ldl_pg _ rfl _ _ (hv.row (by first | exact .head _ | exact .tail _ (.head _) | exact .tail _ (.tail _ (.head _)) | exact .tail _ (.tail _ (.tail _ (.head _))) | exact .tail _ (.tail _ (.tail _ (.tail _ (.head _)))) | exact .tail _ (.tail _ (.tail _ (.tail _ (.tail _ (.head _))))))) ?_)
        | ((with_reducible refine at_new36 ?_); refine stl_new_pg rfl _ _ rfl ?_; intro w2 hm2; replace hv := hv.made hm2; clear hm2)
        | (go_at_call 45; (with_reducible refine (kT _).mono ?_); rintro e w1 ⟨rfl, hn1⟩; replace hv := hv.new hn1; clear hn1))
      replace hv := hv.drop
      go_loopw [11, 12] (fun f i wr => ∃ (k fr : Nat) (b : Nat → Bool) (q : Nat → Nat → Nat), k ≤ len ∧ i = .int .i64 k ∧ f = .int .i64 fr ∧ fr ≤ k ∧ cnt b + fr = 16 ∧ Vars w wr [(w.heap.size, pg b q)]) (fun _ i _ => len - (intOf i).toNat)
      case atStart => exact ⟨0, 0, b, q, Nat.zero_le _, rfl, rfl, Nat.le_refl _, HCN.out, hv⟩
      case round =>
        clear hv kT HCN
        obtain ⟨j, fr, b2, q2, hj, rfl, rfl, hfr, hc, hv⟩ := hrel
        by_cases hj2 : j < len
        · have hji : (j : Int) < (len : Int) := by omega
          obtain ⟨A0, o0, rfl, hA, hc0⟩ := HC.out j hj2
          by_cases hok : freeOk b2 (zs j) = true
          · have hE := (freeE_iff b2 (zs j)).2 hok
            have hcf := cnt_free hok
            have kF : ∀ w, Calls Try.prog 46 #[.agg (pg b2 q2), .int .i64 (zs j)] w fun e w' => e = .returned (.tuple #[.agg (pg (freeB b2 (zs j)) (freeQ b2 q2 (zs j))), .int .i64 0]) ∧ New w w' := fun w => by
              have := Free_any b2 q2 (zs j) w
              rw [hE] at this; exact this
            clear hE
            have HOK := Lib.hid hok; clear hok
            generalize freeB b2 (zs j) = b3 at *
            generalize freeQ b2 q2 (zs j) = q3 at *
            go_wp2_with fail
            refine Fam.wp_region_V (D := fun i => match i with | 9 => some (.lay Try.zeroCells36) | 10 => some (.fill 9 (pg b3 q3)) | _ => none) (by kernel_rfl) (by kernel_rfl) hv ?_
            simp only [List.length_cons, List.length_nil, Nat.zero_add, Fam.someVals]
            iterate 12 apply Exists.intro
            repeat (first
              | (refine Fam.V_skip rfl ?_; simp only [Act.put, List.setIfInBounds_toArray, List.set_cons_succ, List.set_cons_zero])
              | (apply Fam.V_quiet rfl rfl rfl rfl
                 case h =>
                   intro E K hK
                   first
                     | ((with_reducible refine at_qld36 ?_); refine quiet_ld_pg _ rfl _ _ (fun w hw => hw.vars.row (by first | exact .head _ | exact .tail _ (.head _) | exact .tail _ (.tail _ (.head _)) | exact .tail _ (.tail _ (.tail _ (.head _))) | exact .tail _ (.tail _ (.tail _ (.tail _ (.head _)))) | exact .tail _ (.tail _ (.tail _ (.tail _ (.tail _ (.head _))))))) ?_; refine hK _ ?_; rfl)
                     | (refine quiet_load_cell 3 _ rfl A0 (o0 + j) rfl _ Try.underlying3 rfl (.int .i64 (zs j)) (fun w hw => by rw [← cell_rowD, hw.vars.below.cell (p := ⟨A0, o0 + j, none⟩) hA]; exact hc0) ?_; refine hK _ ?_; rfl)
                     | (go_big_quiet_op; first
                       | (refine hK _ ?_; rfl)
                       | (refine ⟨_, fun _ _ => rfl, ?_⟩; refine hK _ ?_; rfl)
                       | (apply Exists.intro; refine ⟨fun w1 hw1 => ?_, ?_⟩; · (first
                           | (go_at_call 46; exact Fam.calls_V (kF _) hw1))
                          refine hK _ ?_; rfl))
                 case hv => rfl
                 simp only [Act.put, List.setIfInBounds_toArray, List.set_cons_succ, List.set_cons_zero])
              | (refine Fam.V_lay rfl rfl (fun _ => rfl) ?_; intro B; simp only [Act.put, List.setIfInBounds_toArray, List.set_cons_succ, List.set_cons_zero])
              | (refine Fam.V_fill (B := B) rfl rfl rfl (fun w hr hs => Fam.run_store_any w _ _ _ rfl B _ rfl rfl 144 infoPs (size_pg _ _) (one_pg _ _) hs (by rw [hr]; kernel_rfl)) ?_; simp only [Act.put, List.setIfInBounds_toArray, List.set_cons_succ, List.set_cons_zero]))
            refine Fam.V_nil ?_
            intro wF hvF
            replace hv := hvF.take (i := 9) (Fam.Blocks.put_same _ _ _)
            clear hvF
            go_wp2_with (first
              | ((with_reducible refine at_ld36 ?_); refine ldl_pg _ rfl _ _ (hv.row (by first | exact .head _ | exact .tail _ (.head _) | exact .tail _ (.tail _ (.head _)) | exact .tail _ (.tail _ (.tail _ (.head _))) | exact .tail _ (.tail _ (.tail _ (.tail _ (.head _)))) | exact .tail _ (.tail _ (.tail _ (.tail _ (.tail _ (.head _))))))) ?_)
              | ((with_reducible refine at_st36 ?_); refine stl_pg _ _ _ rfl rfl _ _ (hv.row (by first | exact .head _ | exact .tail _ (.head _) | exact .tail _ (.tail _ (.head _)) | exact .tail _ (.tail _ (.tail _ (.head _))) | exact .tail _ (.tail _ (.tail _ (.tail _ (.head _)))) | exact .tail _ (.tail _ (.tail _ (.tail _ (.tail _ (.head _))))))) (hv.sft (by first | exact .head _ | exact .tail _ (.head _) | exact .tail _ (.tail _ (.head _)) | exact .tail _ (.tail _ (.tail _ (.head _))) | exact .tail _ (.tail _ (.tail _ (.tail _ (.head _)))) | exact .tail _ (.tail _ (.tail _ (.tail _ (.tail _ (.head _))))))) ?_; intro w2 hw2; replace hv := hv.set 1 rfl hw2; clear hw2; simp only [List.set] at hv))
            replace hv := hv.drop
            go_roundw
            case rel => exact ⟨j + 1, fr + 1, b3, q3, by omega, by go_num, by go_num, by omega, by omega, hv⟩
            case measure => simp [intOf]; omega
            all_goals exact undef
          · replace hok := b_false hok
            have hE : freeE b2 (zs j) ≠ 0 := fun h => by rw [(freeE_iff b2 (zs j)).1 h] at hok; cases hok
            obtain ⟨e1, e2⟩ := freeB_no (q := q2) hok
            have kF : ∀ w, Calls Try.prog 46 #[.agg (pg b2 q2), .int .i64 (zs j)] w fun e w' => e = .returned (.tuple #[.agg (pg b2 q2), .int .i64 (freeE b2 (zs j))]) ∧ New w w' := fun w => by
              have := Free_any b2 q2 (zs j) w
              rw [e1, e2] at this; exact this
            clear e1 e2 hok
            generalize freeE b2 (zs j) = ee at *
            go_wp2_with fail
            refine Fam.wp_region_V (D := fun i => match i with | 9 => some (.lay Try.zeroCells36) | 10 => some (.fill 9 (pg b2 q2)) | _ => none) (by kernel_rfl) (by kernel_rfl) hv ?_
            simp only [List.length_cons, List.length_nil, Nat.zero_add, Fam.someVals]
            iterate 12 apply Exists.intro
            repeat (first
              | (refine Fam.V_skip rfl ?_; simp only [Act.put, List.setIfInBounds_toArray, List.set_cons_succ, List.set_cons_zero])
              | (apply Fam.V_quiet rfl rfl rfl rfl
                 case h =>
                   intro E K hK
                   first
                     | ((with_reducible refine at_qld36 ?_); refine quiet_ld_pg _ rfl _ _ (fun w hw => hw.vars.row (by first | exact .head _ | exact .tail _ (.head _) | exact .tail _ (.tail _ (.head _)) | exact .tail _ (.tail _ (.tail _ (.head _))) | exact .tail _ (.tail _ (.tail _ (.tail _ (.head _)))) | exact .tail _ (.tail _ (.tail _ (.tail _ (.tail _ (.head _))))))) ?_; refine hK _ ?_; rfl)
                     | (refine quiet_load_cell 3 _ rfl A0 (o0 + j) rfl _ Try.underlying3 rfl (.int .i64 (zs j)) (fun w hw => by rw [← cell_rowD, hw.vars.below.cell (p := ⟨A0, o0 + j, none⟩) hA]; exact hc0) ?_; refine hK _ ?_; rfl)
                     | (go_big_quiet_op; first
                       | (refine hK _ ?_; rfl)
                       | (refine ⟨_, fun _ _ => rfl, ?_⟩; refine hK _ ?_; rfl)
                       | (apply Exists.intro; refine ⟨fun w1 hw1 => ?_, ?_⟩; · (first
                           | (go_at_call 46; exact Fam.calls_V (kF _) hw1))
                          refine hK _ ?_; rfl))
                 case hv => rfl
                 simp only [Act.put, List.setIfInBounds_toArray, List.set_cons_succ, List.set_cons_zero])
              | (refine Fam.V_lay rfl rfl (fun _ => rfl) ?_; intro B; simp only [Act.put, List.setIfInBounds_toArray, List.set_cons_succ, List.set_cons_zero])
              | (refine Fam.V_fill (B := B) rfl rfl rfl (fun w hr hs => Fam.run_store_any w _ _ _ rfl B _ rfl rfl 144 infoPs (size_pg _ _) (one_pg _ _) hs (by rw [hr]; kernel_rfl)) ?_; simp only [Act.put, List.setIfInBounds_toArray, List.set_cons_succ, List.set_cons_zero]))
            refine Fam.V_nil ?_
            intro wF hvF
            replace hv := hvF.take (i := 9) (Fam.Blocks.put_same _ _ _)
            clear hvF
            go_wp2_with (first
              | ((with_reducible refine at_ld36 ?_); refine ldl_pg _ rfl _ _ (hv.row (by first | exact .head _ | exact .tail _ (.head _) | exact .tail _ (.tail _ (.head _)) | exact .tail _ (.tail _ (.tail _ (.head _))) | exact .tail _ (.tail _ (.tail _ (.tail _ (.head _)))) | exact .tail _ (.tail _ (.tail _ (.tail _ (.tail _ (.head _))))))) ?_)
              | ((with_reducible refine at_st36 ?_); refine stl_pg _ _ _ rfl rfl _ _ (hv.row (by first | exact .head _ | exact .tail _ (.head _) | exact .tail _ (.tail _ (.head _)) | exact .tail _ (.tail _ (.tail _ (.head _))) | exact .tail _ (.tail _ (.tail _ (.tail _ (.head _)))) | exact .tail _ (.tail _ (.tail _ (.tail _ (.tail _ (.head _))))))) (hv.sft (by first | exact .head _ | exact .tail _ (.head _) | exact .tail _ (.tail _ (.head _)) | exact .tail _ (.tail _ (.tail _ (.head _))) | exact .tail _ (.tail _ (.tail _ (.tail _ (.head _)))) | exact .tail _ (.tail _ (.tail _ (.tail _ (.tail _ (.head _))))))) ?_; intro w2 hw2; replace hv := hv.set 1 rfl hw2; clear hw2; simp only [List.set] at hv))
            replace hv := hv.drop
            go_roundw
            case rel => exact ⟨j + 1, fr, b2, q2, by omega, by go_num, rfl, by omega, by omega, hv⟩
            case measure => simp [intOf]; omega
            all_goals exact undef
        · have hji : ¬ (j : Int) < (len : Int) := by omega
          go_wp2
          go_loopw [15] (fun i wr => ∃ (k : Nat) (b : Nat → Bool) (q : Nat → Nat → Nat), k ≤ fr ∧ i = .int .i64 k ∧ cnt b + (fr - k) = 16 ∧ Vars w wr [(w.heap.size, pg b q)]) (fun i _ => fr - (intOf i).toNat)
          case atStart => exact ⟨0, b2, q2, Nat.zero_le _, rfl, by omega, hv⟩
          case round =>
            clear hv
            obtain ⟨k, b3, q3, hk3, rfl, hc3, hv⟩ := hrel
            by_cases hk4 : k < fr
            · have hki : (k : Int) < (fr : Int) := by omega
              have hff := ff_of_cnt_lt (b := b3) (by omega)
              have hct := cnt_take hff
              have kT : ∀ w, Calls Try.prog 45 #[.agg (pg b3 q3)] w fun e w' => e = .returned (.tuple #[.agg (pg (takeB b3) (takeQ b3 q3)), .int .i64 (ff b3 : Int), .int .i64 0]) ∧ New w w' := fun w => by
                have := Take_any b3 q3 w
                unfold takeN takeE at this
                rw [if_neg (by omega), if_neg (by omega)] at this; exact this
              generalize takeB b3 = b4 at *
              generalize takeQ b3 q3 = q4 at *
              generalize ff b3 = f3 at *
              have H1 := Lib.hid hct; clear hct
              go_wp2_with (first
                | ((with_reducible refine at_ld36 ?_); refine ldl_pg _ rfl _ _ (hv.row (by first | exact .head _ | exact .tail _ (.head _) | exact .tail _ (.tail _ (.head _)) | exact .tail _ (.tail _ (.tail _ (.head _))) | exact .tail _ (.tail _ (.tail _ (.tail _ (.head _)))) | exact .tail _ (.tail _ (.tail _ (.tail _ (.tail _ (.head _))))))) ?_)
                | ((with_reducible refine at_new36 ?_); refine stl_new_pg rfl _ _ rfl ?_; intro w2 hm2; replace hv := hv.made hm2; clear hm2)
                | ((with_reducible refine at_st36 ?_); refine stl_pg _ _ _ rfl rfl _ _ (hv.row (by first | exact .head _ | exact .tail _ (.head _) | exact .tail _ (.tail _ (.head _)) | exact .tail _ (.tail _ (.tail _ (.head _))) | exact .tail _ (.tail _ (.tail _ (.tail _ (.head _)))) | exact .tail _ (.tail _ (.tail _ (.tail _ (.tail _ (.head _))))))) (hv.sft (by first | exact .head _ | exact .tail _ (.head _) | exact .tail _ (.tail _ (.head _)) | exact .tail _ (.tail _ (.tail _ (.head _))) | exact .tail _ (.tail _ (.tail _ (.tail _ (.head _)))) | exact .tail _ (.tail _ (.tail _ (.tail _ (.tail _ (.head _))))))) ?_; intro w2 hw2; replace hv := hv.set 1 rfl hw2; clear hw2; simp only [List.set] at hv)
                | (go_at_call 45; (with_reducible refine (kT _).mono ?_); rintro e w1 ⟨rfl, hn1⟩; replace hv := hv.new hn1; clear hn1))
              replace hv := hv.drop
              go_roundw
              case rel => exact ⟨k + 1, b4, q4, by omega, by go_num, by have := H1.out; omega, hv⟩
              case measure => simp [intOf]; omega
            · have hki : ¬ (k : Int) < (fr : Int) := by omega
              have hff := ff_of_cnt (b := b3) (by omega)
              obtain ⟨e1, e2, e3, e4⟩ := take_full (q := q3) hff
              have hct := cnt_full hff
              have kT : ∀ w, Calls Try.prog 45 #[.agg (pg b3 q3)] w fun e w' => e = .returned (.tuple #[.agg (pg b3 q3), .int .i64 0, .int .i64 4]) ∧ New w w' := fun w => by
                have := Take_any b3 q3 w
                rw [e1, e2, e3, e4] at this; exact this
              have kC : ∀ w, Calls Try.prog 47 #[.agg (pg b3 q3)] w fun e w' => e = .returned (.int .i64 16) ∧ New w w' := fun w => by
                have := Count_any b3 q3 w
                rw [hct] at this; exact this
              clear e1 e2 e3 e4 hff hct hc3 hc
              go_wp2_with (first
                | ((with_reducible refine at_ld36 ?_); refine ldl_pg _ rfl _ _ (hv.row (by first | exact .head _ | exact .tail _ (.head _) | exact .tail _ (.tail _ (.head _)) | exact .tail _ (.tail _ (.tail _ (.head _))) | exact .tail _ (.tail _ (.tail _ (.tail _ (.head _)))) | exact .tail _ (.tail _ (.tail _ (.tail _ (.tail _ (.head _))))))) ?_)
                | ((with_reducible refine at_ldg36 ?_); refine ldg_pg _ rfl _ _ (hv.row (by first | exact .head _ | exact .tail _ (.head _) | exact .tail _ (.tail _ (.head _)) | exact .tail _ (.tail _ (.tail _ (.head _))) | exact .tail _ (.tail _ (.tail _ (.tail _ (.head _)))) | exact .tail _ (.tail _ (.tail _ (.tail _ (.tail _ (.head _))))))) rfl ?_)
                | ((with_reducible refine at_new36 ?_); refine stl_new_pg rfl _ _ rfl ?_; intro w2 hm2; replace hv := hv.made hm2; clear hm2)
                | (go_at_call 45; (with_reducible refine (kT _).mono ?_); rintro e w1 ⟨rfl, hn1⟩; replace hv := hv.new hn1; clear hn1)
                | (go_at_call 47; (with_reducible refine (kC _).mono ?_); rintro e w1 ⟨rfl, hn1⟩; replace hv := hv.new hn1; clear hn1)
                | (go_at_call 44; refine (heads15 _).mono ?_; rintro e w1 ⟨rfl, hn1⟩; replace hv := hv.new hn1; clear hn1))
              go_ret
              exact ⟨rfl, hv.below⟩


theorem PageAll_long (ao : Option Addr) (len cap : Nat) (w : World) (hlen : 40 < len) (hm : len ≤ maxLen) :
    Calls Try.prog 8 #[.slice ao len cap] w fun e w' => e = .returned (.bool true) ∧ New w w' := by
  have hl : (40 : Int) < (len : Int) := by omega
  unfold maxLen at hm
  have kh : ∀ w, Calls Try.prog 44 #[] w fun e w' => e = .returned (.bool true) ∧ New w w' := heads15
  go_enter Try.func8, Try.ntmps8
  go_wp2_with (go_at_call 44; refine (kh _).mono ?_; rintro e w1 ⟨rfl, hn1⟩)
  go_ret
  exact ⟨rfl, hn1⟩
theorem PageAll_any (v : Value) (l : List Int) (w : World) (h : Rd w 1 v (l.map (Value.int .i64))) :
    Calls Try.prog 8 #[v] w fun e w' => e = .returned (.bool true) ∧ New w w' := by
  obtain ⟨ao, n, cap, rfl, h1, h2, h3, h4, h5⟩ := h
  rw [List.length_map, Nat.mul_one] at h1
  rcases Nat.lt_or_ge 40 n with g | g
  · exact PageAll_long ao n cap w g (by omega)
  · refine PageAll_walk ao n cap (fun i => l.getD i 0) w g (fun k hk => ?_)
    obtain ⟨b, o, e, hb, hc⟩ := h5 k (by rw [List.length_map]; omega)
    refine ⟨b, o, e, hb, hc.trans ?_⟩
    rw [List.getElem?_map, List.getElem?_eq_getElem (by omega)]
    simp [List.getD, List.getElem?_eq_getElem (show k < l.length by omega)]
end Go.Proofs.Ythpodinbbmgfoaa
