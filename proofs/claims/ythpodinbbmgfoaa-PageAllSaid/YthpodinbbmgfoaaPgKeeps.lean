/-
  The walk of the statement PageKeeps.
-/
import Derived.Test.YthpodinbbmgfoaaPgLaw
import Derived.Test.YthpodinbbmgfoaaPgPlain
set_option linter.unusedVariables false
namespace Go.Proofs.Ythpodinbbmgfoaa
open Go.Proofs.Pg Go.RowKit

set_option maxRecDepth 100000 in
set_option maxHeartbeats 8000000 in
theorem Keeps_core (b : Nat → Bool) (q : Nat → Nat → Nat) (x y v : Nat) (sq : Nat → Nat → Nat) (n : Nat) (tb : Nat → Bool) (tq : Nat → Nat → Nat) (tn te : Int) (cb : Nat) (ct : Int) (lx ly : Int) (v1 v2 v3 : Nat) (c1 c2 c3 : Bool) (w : World)
    (kS : ∀ w, Calls Try.prog 50 #[.agg (pg b q), .int .u64 x, .int .u64 v] w fun e w' => e = .returned (.tuple #[.agg (pg b sq), .int .i64 lx]) ∧ New w w')
    (kL1 : ∀ w, Calls Try.prog 52 #[.agg (pg b sq), .int .u64 x] w fun e w' => e = .returned (.tuple #[.int .u64 v1, .int .i64 lx]) ∧ New w w')
    (kL2 : ∀ w, Calls Try.prog 52 #[.agg (pg b sq), .int .u64 y] w fun e w' => e = .returned (.tuple #[.int .u64 v2, .int .i64 ly]) ∧ New w w')
    (kL3 : ∀ w, Calls Try.prog 52 #[.agg (pg b q), .int .u64 y] w fun e w' => e = .returned (.tuple #[.int .u64 v3, .int .i64 ly]) ∧ New w w')
    (kT : ∀ w, Calls Try.prog 45 #[.agg (pg b q)] w fun e w' => e = .returned (.tuple #[.agg (pg tb tq), .int .i64 tn, .int .i64 te]) ∧ New w w')
    (kC1 : ∀ w, Calls Try.prog 47 #[.agg (pg b q)] w fun e w' => e = .returned (.int .i64 cb) ∧ New w w')
    (kC2 : ∀ w, Calls Try.prog 47 #[.agg (pg tb tq)] w fun e w' => e = .returned (.int .i64 ct) ∧ New w w')
    (kH1 : ∀ w, Calls Try.prog 55 #[.agg (pg b q)] w fun e w' => e = .returned (.bool c1) ∧ New w w')
    (kH2 : ∀ w, Calls Try.prog 55 #[.agg (pg b sq)] w fun e w' => e = .returned (.bool c2) ∧ New w w')
    (kH3 : ∀ w, Calls Try.prog 55 #[.agg (pg tb tq)] w fun e w' => e = .returned (.bool c3) ∧ New w w')
    (kLT : n < 16 → ∀ k : Nat, k < 8 → ∀ w, Calls Try.prog 52 #[.agg (pg tb tq), .int .u64 (8 * (n : Int) + (k : Int))] w fun e w' => e = .returned (.tuple #[.int .u64 0, .int .i64 0]) ∧ New w w')
    (hok : (lx = 0 ∧ v1 = v) ∨ (lx = 150 ∧ sq = q)) (hxy : (((x : Int) != (y : Int)) = false) ∨ (((x : Int) != (y : Int)) = true ∧ v2 = v3))
    (hn : (n = 16 ∧ tn = 0 ∧ te = 4 ∧ cb = 16) ∨ (n < 16 ∧ tn = n ∧ te = 0 ∧ ct = cb + 1)) (hcb : cb ≤ 16) (hch : c1 = false ∨ (c1 = true ∧ c2 = true ∧ c3 = true)) :
    Calls Try.prog 10 #[.agg (pg b q), .int .u64 x, .int .u64 y, .int .u64 v] w fun e w' => e = .returned (.bool true) ∧ New w w' := by
  have he : ∀ (w : World) (b : Nat → Bool) (q : Nat → Nat → Nat), (Op.equalIn 10000 36 (.agg (pg b q)) (.agg (pg b q))).run Try.prog w = .ok true w := fun w b q => by rw [equalIn_pgM, samePg_self]
  have hv := Vars.nil w
  obtain ⟨W, hW⟩ : ∃ W : World, w.alloc (.cells (pg b q) 36) = W := ⟨_, rfl⟩
  have hm0 := made_alloc w (pg b q) 36
  rw [hW] at hm0
  replace hv := hv.made hm0
  clear hm0
  have HLT := Lib.hid kLT; clear kLT
  rcases hn with ⟨rfl, rfl, rfl, rfl⟩ | ⟨hn, rfl, rfl, rfl⟩
  · rcases hok with ⟨rfl, rfl⟩ | ⟨rfl, rfl⟩ <;> rcases hxy with hxy | ⟨hxy, rfl⟩
    all_goals
      go_enter Try.func10, Try.ntmps10
      go_wp2_with (first
        | ((with_reducible refine at_ld36 ?_); refine ldl_pg _ rfl _ _ (hv.row (by first | exact .head _ | exact .tail _ (.head _) | exact .tail _ (.tail _ (.head _)) | exact .tail _ (.tail _ (.tail _ (.head _))) | exact .tail _ (.tail _ (.tail _ (.tail _ (.head _)))) | exact .tail _ (.tail _ (.tail _ (.tail _ (.tail _ (.head _))))))) ?_)
        | ((with_reducible refine at_ldg36 ?_); refine ldg_pg _ rfl _ _ (hv.row (by first | exact .head _ | exact .tail _ (.head _) | exact .tail _ (.tail _ (.head _)) | exact .tail _ (.tail _ (.tail _ (.head _))) | exact .tail _ (.tail _ (.tail _ (.tail _ (.head _)))) | exact .tail _ (.tail _ (.tail _ (.tail _ (.tail _ (.head _))))))) rfl ?_)
        | ((with_reducible refine at_new36 ?_); refine stl_new_pg rfl _ _ rfl ?_; intro w2 hm2; replace hv := hv.made hm2; clear hm2)
        | (go_at_call 50; (with_reducible refine (kS _).mono ?_); rintro e wS ⟨rfl, hn1⟩; replace hv := hv.new hn1; clear hn1)
        | (go_at_call 52; (with_reducible refine (kL1 _).mono ?_); rintro e w1 ⟨rfl, hn1⟩; replace hv := hv.new hn1; clear hn1)
        | (go_at_call 52; (with_reducible refine (kL2 _).mono ?_); rintro e w1 ⟨rfl, hn1⟩; replace hv := hv.new hn1; clear hn1)
        | (go_at_call 52; (with_reducible refine (kL3 _).mono ?_); rintro e w1 ⟨rfl, hn1⟩; replace hv := hv.new hn1; clear hn1)
        | (go_at_call 45; (with_reducible refine (kT _).mono ?_); rintro e wT ⟨rfl, hn1⟩; replace hv := hv.new hn1; clear hn1)
        | (go_at_call 47; (with_reducible refine (kC1 _).mono ?_); rintro e w1 ⟨rfl, hn1⟩; replace hv := hv.new hn1; clear hn1)
        | (go_at_call 44; refine (heads15 _).mono ?_; rintro e w1 ⟨rfl, hn1⟩; replace hv := hv.new hn1; clear hn1))
      go_ret
      exact ⟨rfl, hv.below⟩
  · have hni : (n : Int) < 16 := by omega
    rcases hok with ⟨rfl, rfl⟩ | ⟨rfl, rfl⟩ <;> rcases hxy with hxy | ⟨hxy, rfl⟩
    all_goals
      go_enter Try.func10, Try.ntmps10
      go_wp2_with (first
        | ((with_reducible refine at_ld36 ?_); refine ldl_pg _ rfl _ _ (hv.row (by first | exact .head _ | exact .tail _ (.head _) | exact .tail _ (.tail _ (.head _)) | exact .tail _ (.tail _ (.tail _ (.head _))) | exact .tail _ (.tail _ (.tail _ (.tail _ (.head _)))) | exact .tail _ (.tail _ (.tail _ (.tail _ (.tail _ (.head _))))))) ?_)
        | ((with_reducible refine at_ldg36 ?_); refine ldg_pg _ rfl _ _ (hv.row (by first | exact .head _ | exact .tail _ (.head _) | exact .tail _ (.tail _ (.head _)) | exact .tail _ (.tail _ (.tail _ (.head _))) | exact .tail _ (.tail _ (.tail _ (.tail _ (.head _)))) | exact .tail _ (.tail _ (.tail _ (.tail _ (.tail _ (.head _))))))) rfl ?_)
        | ((with_reducible refine at_new36 ?_); refine stl_new_pg rfl _ _ rfl ?_; intro w2 hm2; replace hv := hv.made hm2; clear hm2)
        | (go_at_call 50; (with_reducible refine (kS _).mono ?_); rintro e wS ⟨rfl, hn1⟩; replace hv := hv.new hn1; clear hn1)
        | (go_at_call 52; (with_reducible refine (kL1 _).mono ?_); rintro e w1 ⟨rfl, hn1⟩; replace hv := hv.new hn1; clear hn1)
        | (go_at_call 52; (with_reducible refine (kL2 _).mono ?_); rintro e w1 ⟨rfl, hn1⟩; replace hv := hv.new hn1; clear hn1)
        | (go_at_call 52; (with_reducible refine (kL3 _).mono ?_); rintro e w1 ⟨rfl, hn1⟩; replace hv := hv.new hn1; clear hn1)
        | (go_at_call 45; (with_reducible refine (kT _).mono ?_); rintro e wT ⟨rfl, hn1⟩; replace hv := hv.new hn1; clear hn1)
        | (go_at_call 47; (with_reducible refine (kC1 _).mono ?_); rintro e w1 ⟨rfl, hn1⟩; replace hv := hv.new hn1; clear hn1)
        | (go_at_call 44; refine (heads15 _).mono ?_; rintro e w1 ⟨rfl, hn1⟩; replace hv := hv.new hn1; clear hn1))
      go_loopw [20] (fun i wr => ∃ k : Nat, k ≤ 8 ∧ i = .int .i64 k ∧ Vars w wr _) (fun i _ => 8 - (intOf i).toNat)
      case atStart => exact ⟨0, by omega, rfl, hv⟩
      case round =>
        clear hv
        obtain ⟨k, hk, rfl, hv⟩ := hrel
        by_cases hk8 : k < 8
        · have hki : (k : Int) < 8 := by omega
          have kLk := HLT.out hn k hk8
          go_wp2_with (first
            | ((with_reducible refine at_ld36 ?_); refine ldl_pg _ rfl _ _ (hv.row (by first | exact .head _ | exact .tail _ (.head _) | exact .tail _ (.tail _ (.head _)) | exact .tail _ (.tail _ (.tail _ (.head _))) | exact .tail _ (.tail _ (.tail _ (.tail _ (.head _)))) | exact .tail _ (.tail _ (.tail _ (.tail _ (.tail _ (.head _))))))) ?_)
            | (go_at_call 52; (with_reducible refine (kLk _).mono ?_); rintro e w1 ⟨rfl, hn1⟩; replace hv := hv.new hn1; clear hn1))
          go_roundw
          case rel => exact ⟨k + 1, by omega, by go_num, hv⟩
          case measure => simp [intOf]; omega
        · have hki : ¬ (k : Int) < 8 := by omega
          rcases hch with rfl | ⟨rfl, rfl, rfl⟩
          all_goals
            go_wp2_with fail
            refine wp_region_class (C := fun w' => Vars w w' _) (by kernel_rfl) (by kernel_rfl) (hv.drewN 1) ?_
            repeat (first
              | go_big_quiet_skip
              | (go_big_quiet_want; first
                | ((with_reducible refine at_qld36 ?_); refine quiet_ld_pg _ rfl _ _ (fun w hw => hw.row (by first | exact .head _ | exact .tail _ (.head _) | exact .tail _ (.tail _ (.head _)) | exact .tail _ (.tail _ (.tail _ (.head _))) | exact .tail _ (.tail _ (.tail _ (.tail _ (.head _)))) | exact .tail _ (.tail _ (.tail _ (.tail _ (.tail _ (.head _))))))) ?_; simp only [Act.put, List.setIfInBounds_toArray, List.set_cons_succ, List.set_cons_zero]; go_big_quiet_on)
                | (go_big_quiet_op; first
                  | go_big_quiet_on
                  | (refine ⟨_, fun _ _ => rfl, ?_⟩; go_big_quiet_on)
                  | (apply Exists.intro; refine ⟨fun w1 hw1 => ?_, ?_⟩; · (first
                      | (go_at_call 47; (with_reducible exact calls_new (kC2 _) hw1))
                      | (go_at_call 47; (with_reducible exact calls_new (kC1 _) hw1))
                      | (go_at_call 55; (with_reducible exact calls_new (kH1 _) hw1))
                      | (go_at_call 55; (with_reducible exact calls_new (kH2 _) hw1))
                      | (go_at_call 55; (with_reducible exact calls_new (kH3 _) hw1))
                      | (go_at_call 44; (with_reducible exact calls_new (heads15 _) hw1)))
                     go_big_quiet_on))))
            refine wpQuiet_nil ?_
            intro w9 hv9
            go_wp2
            go_ret
            exact ⟨rfl, hv9.below⟩

set_option maxRecDepth 100000 in
set_option maxHeartbeats 4000000 in
theorem PageKeeps_nat (b : Nat → Bool) (q : Nat → Nat → Nat) (x y v : Nat) (w : World) (hx : x < 18446744073709551616) (hy : y < 18446744073709551616) :
    Calls Try.prog 10 #[.agg (pg b q), .int .u64 x, .int .u64 y, .int .u64 v] w fun e w' => e = .returned (.bool true) ∧ New w w' := by
  have he : ∀ (w : World) (b : Nat → Bool) (q : Nat → Nat → Nat), (Op.equalIn 10000 36 (.agg (pg b q)) (.agg (pg b q))).run Try.prog w = .ok true w := fun w b q => by rw [equalIn_pgM, samePg_self]
  have hv := Vars.nil w
  obtain ⟨W, hW⟩ : ∃ W : World, w.alloc (.cells (pg b q) 36) = W := ⟨_, rfl⟩
  have hm0 := made_alloc w (pg b q) 36
  rw [hW] at hm0
  replace hv := hv.made hm0
  clear hm0
  have kS : ∀ w, Calls Try.prog 50 #[.agg (pg b q), .int .u64 x, .int .u64 v] w fun e w' => e = .returned (.tuple #[.agg (pg b (storeQ b q x v)), .int .i64 (loadE b x)]) ∧ New w w' := fun w => Store_any b q x v w
  have kL1 : ∀ w, Calls Try.prog 52 #[.agg (pg b (storeQ b q x v)), .int .u64 x] w fun e w' => e = .returned (.tuple #[.int .u64 (loadV b (storeQ b q x v) x), .int .i64 (loadE b x)]) ∧ New w w' := fun w => Load_any b _ x w
  have kL2 : ∀ w, Calls Try.prog 52 #[.agg (pg b (storeQ b q x v)), .int .u64 y] w fun e w' => e = .returned (.tuple #[.int .u64 (loadV b (storeQ b q x v) y), .int .i64 (loadE b y)]) ∧ New w w' := fun w => Load_any b _ y w
  have kL3 : ∀ w, Calls Try.prog 52 #[.agg (pg b q), .int .u64 y] w fun e w' => e = .returned (.tuple #[.int .u64 (loadV b q y), .int .i64 (loadE b y)]) ∧ New w w' := fun w => Load_any b _ y w
  have kT : ∀ w, Calls Try.prog 45 #[.agg (pg b q)] w fun e w' => e = .returned (.tuple #[.agg (pg (takeB b) (takeQ b q)), .int .i64 (takeN b), .int .i64 (takeE b)]) ∧ New w w' := fun w => Take_any b q w
  have kC1 : ∀ w, Calls Try.prog 47 #[.agg (pg b q)] w fun e w' => e = .returned (.int .i64 (cnt b)) ∧ New w w' := fun w => Count_any b q w
  have kC2 : ∀ w, Calls Try.prog 47 #[.agg (pg (takeB b) (takeQ b q))] w fun e w' => e = .returned (.int .i64 (cnt (takeB b))) ∧ New w w' := fun w => Count_any _ _ w
  have kH1 : ∀ w, Calls Try.prog 55 #[.agg (pg b q)] w fun e w' => e = .returned (.bool (chk b q)) ∧ New w w' := fun w => Check_any b q w
  have kH2 : ∀ w, Calls Try.prog 55 #[.agg (pg b (storeQ b q x v))] w fun e w' => e = .returned (.bool (chk b (storeQ b q x v))) ∧ New w w' := fun w => Check_any _ _ w
  have kH3 : ∀ w, Calls Try.prog 55 #[.agg (pg (takeB b) (takeQ b q))] w fun e w' => e = .returned (.bool (chk (takeB b) (takeQ b q))) ∧ New w w' := fun w => Check_any _ _ w
  have hh := chk_store (b := b) (q := q) (x := x) (v := v)
  have ht := chk_take (b := b) (q := q)
  have hneq : x = y → ((x : Int) != (y : Int)) = false := fun h => by rw [h]; simp
  have hney : x ≠ y → ((x : Int) != (y : Int)) = true := fun h => by rw [bne_iff_ne]; omega
  have hold : x ≠ y → loadV b (storeQ b q x v) y = loadV b q y := loadV_other
  have hsame : x = y → loadV b (storeQ b q x v) y = loadV b (storeQ b q x v) x := fun h => by rw [h]
  have kFull : ff b = 16 → takeN b = 0 ∧ takeE b = 4 ∧ cnt b = 16 := fun h => ⟨by simp [takeN, h], by simp [takeE, h], cnt_full h⟩
  have kPart : ff b < 16 → takeN b = ff b ∧ takeE b = 0 ∧ cnt (takeB b) = cnt b + 1 := fun h => ⟨by unfold takeN; rw [if_neg (by omega)], by unfold takeE; rw [if_neg (by omega)], cnt_take h⟩
  have kLT : ff b < 16 → ∀ k : Nat, k < 8 → ∀ w, Calls Try.prog 52 #[.agg (pg (takeB b) (takeQ b q)), .int .u64 (8 * (ff b : Int) + ((k : Nat) : Int))] w fun e w' => e = .returned (.tuple #[.int .u64 0, .int .i64 0]) ∧ New w w' := fun h k hk w => by
    have := Load_any (takeB b) (takeQ b q) (8 * ff b + k) w
    rw [(load_taken (q := q) h hk).1, (load_taken (q := q) h hk).2, show ((8 * ff b + k : Nat) : Int) = 8 * (ff b : Int) + (k : Int) from by omega] at this; exact this
  have hA : okAt b x = true → loadE b x = 0 ∧ loadV b (storeQ b q x v) x = v := fun h => ⟨by unfold loadE; rw [h]; rfl, loadV_store h⟩
  have hN : okAt b x = false → loadE b x = 150 ∧ storeQ b q x v = q := fun h => ⟨by unfold loadE; rw [h]; rfl, storeQ_no h⟩
  have hff := ff_le b
  have hcb : cnt b ≤ 16 := cntTo_le b 16
  refine Keeps_core b q x y v _ _ _ _ _ _ _ (cnt (takeB b) : Int) _ _ _ _ _ _ _ _ w kS kL1 kL2 kL3 kT kC1 kC2 kH1 kH2 kH3 kLT ?_ ?_ ?_ hcb ?_
  · by_cases h : okAt b x = true
    · exact .inl (hA h)
    · exact .inr (hN (b_false h))
  · by_cases h : x = y
    · exact .inl (hneq h)
    · exact .inr ⟨hney h, hold h⟩
  · by_cases h : ff b = 16
    · exact .inl ⟨h, kFull h⟩
    · obtain ⟨h1, h2, h3⟩ := kPart (by omega)
      exact .inr ⟨by omega, h1, h2, by omega⟩
  · by_cases h : chk b q = true
    · exact .inr ⟨h, hh h, ht h⟩
    · exact .inl (b_false h)
end Go.Proofs.Ythpodinbbmgfoaa
