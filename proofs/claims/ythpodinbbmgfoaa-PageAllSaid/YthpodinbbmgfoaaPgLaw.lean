/-
  The walks of the statements about pages.
-/
import Derived.Test.YthpodinbbmgfoaaPgRef
set_option linter.unusedVariables false
namespace Go.Proofs.Pg
def b1 := takeB noBusy
def q1 := takeQ noBusy noWords
def q2 := storeQ b1 q1 3 7
def b3 := takeB b1
def q3 := takeQ b1 q2
def b4 := freeB b3 0
def q4 := freeQ b3 q3 0
end Go.Proofs.Pg
namespace Go.Proofs.Ythpodinbbmgfoaa
open Go.Proofs.Pg Go.RowKit
section
variable {ops : Array Oper} {rest : List Oper} {op : Oper} {a : Act} {w : World} {Q : Exit → Act → World → Prop}
variable {dst : Option Tmp} {ty : TypeId} {pos : String} {after : Array Edge} {x y : Operand}
/-! The same with the operation written out: so that a law that does not fit fails at once. -/
theorem quiet_ld_pg {C : World → Prop} {K : Act → Prop} (B : Nat) (hx : a.eval x = .pointer (some ⟨B, 0, none⟩)) (b : Nat → Bool) (q : Nat → Nat → Nat) (hC : ∀ w, C w → w.rowD B = pg b q) (hk : K (a.put dst (.agg (pg b q)))) {g : Option (Nat × Bool)} :
    Oper.quiet Try.prog { dst := dst, op := .load 36 x, type := ty, pos := pos, after := after, guard := g } a C K :=
  quiet_load_any 36 x rfl B 0 hx 144 _ Try.underlying36 rfl infoPs (by decide) _ (fun w hw => by have := hC w hw; rw [this, size_pg]; exact ⟨by omega, extract_all _ (size_pg _ _)⟩) hk
theorem at_qld36 {C : World → Prop} {K : Act → Prop} {g : Option (Nat × Bool)} (h : Oper.quiet Try.prog { dst := dst, op := .load 36 x, type := ty, pos := pos, after := after, guard := g } a C K) : Oper.quiet Try.prog { dst := dst, op := .load 36 x, type := ty, pos := pos, after := after, guard := g } a C K := h
theorem at_ld36 (h : wpList Try.prog ops Q ({ dst := dst, op := .load 36 x, type := ty, pos := pos, after := after, guard := none } :: rest) a w) : wpList Try.prog ops Q ({ dst := dst, op := .load 36 x, type := ty, pos := pos, after := after, guard := none } :: rest) a w := h
theorem at_ldg36 {g : Nat × Bool} (h : wpList Try.prog ops Q ({ dst := dst, op := .load 36 x, type := ty, pos := pos, after := after, guard := some g } :: rest) a w) : wpList Try.prog ops Q ({ dst := dst, op := .load 36 x, type := ty, pos := pos, after := after, guard := some g } :: rest) a w := h
theorem ldg_pg {g : Nat × Bool} (B : Nat) (hx : a.eval x = .pointer (some ⟨B, 0, none⟩)) (b : Nat → Bool) (q : Nat → Nat → Nat) (hr : w.rowD B = pg b q) (hgd : Region.wanted { dst := dst, op := .load 36 x, type := ty, pos := pos, after := after, guard := some g } (yielded ops a.tmps) = true)
    (h : wpList Try.prog ops Q rest (a.put dst (.agg (pg b q))) w) : wpList Try.prog ops Q ({ dst := dst, op := .load 36 x, type := ty, pos := pos, after := after, guard := some g } :: rest) a w :=
  ld_pg hgd x rfl B hx b q hr h
theorem at_st36 (h : wpList Try.prog ops Q ({ dst := none, op := .store 36 x y, type := ty, pos := pos, after := after, guard := none } :: rest) a w) : wpList Try.prog ops Q ({ dst := none, op := .store 36 x y, type := ty, pos := pos, after := after, guard := none } :: rest) a w := h
theorem at_new36 (h : wpList Try.prog ops Q ({ dst := none, op := .store 36 x y, type := ty, pos := pos, after := after, guard := none } :: rest) a (w.alloc (.cells Try.zeroCells36 36))) : wpList Try.prog ops Q ({ dst := none, op := .store 36 x y, type := ty, pos := pos, after := after, guard := none } :: rest) a (w.alloc (.cells Try.zeroCells36 36)) := h
theorem ldl_pg (B : Nat) (hx : a.eval x = .pointer (some ⟨B, 0, none⟩)) (b : Nat → Bool) (q : Nat → Nat → Nat) (hr : w.rowD B = pg b q)
    (h : wpList Try.prog ops Q rest (a.put dst (.agg (pg b q))) w) : wpList Try.prog ops Q ({ dst := dst, op := .load 36 x, type := ty, pos := pos, after := after, guard := none } :: rest) a w :=
  ld_pg rfl x rfl B hx b q hr h
theorem stl_pg (B : Nat) (b : Nat → Bool) (q : Nat → Nat → Nat) (hx : a.eval x = .pointer (some ⟨B, 0, none⟩)) (hy : a.eval y = .agg (pg b q)) (b0 : Nat → Bool) (q0 : Nat → Nat → Nat) (hr : w.rowD B = pg b0 q0) (hs : w.soft B = true)
    (h : ∀ w', Wrote w w' B (pg b q) → wpList Try.prog ops Q rest (a.put none undef) w') : wpList Try.prog ops Q ({ dst := none, op := .store 36 x y, type := ty, pos := pos, after := after, guard := none } :: rest) a w :=
  st_pg rfl x y rfl B b q hx hy b0 q0 hr hs h
theorem stl_new_pg (hx : a.eval x = .pointer (some ⟨w.heap.size, 0, none⟩)) (b : Nat → Bool) (q : Nat → Nat → Nat) (hy : a.eval y = .agg (pg b q))
    (h : ∀ w', Made w w' (pg b q) → wpList Try.prog ops Q rest (a.put none undef) w') : wpList Try.prog ops Q ({ dst := none, op := .store 36 x y, type := ty, pos := pos, after := after, guard := none } :: rest) a (w.alloc (.cells Try.zeroCells36 36)) := by
  refine st_pg rfl x y rfl w.heap.size b q hx hy noBusy noWords (by rw [zeroPs]; exact rowD_alloc_at w _ _ _ rfl) (soft_alloc_at w _ _ _ rfl) ?_
  intro w' hw; exact h w' (made_wrote hw)
end

set_option maxRecDepth 100000 in
set_option maxHeartbeats 4000000 in
theorem heads15 (w : World) : Calls Try.prog 44 #[] w fun e w' => e = .returned (.bool true) ∧ New w w' := by
  have t1 : ∀ w, Calls Try.prog 45 #[.agg (pg noBusy noWords)] w fun e w' => e = .returned (.tuple #[.agg (pg b1 q1), .int .i64 0, .int .i64 0]) ∧ New w w' := fun w => by
    have := Take_any noBusy noWords w
    rw [show takeN noBusy = 0 from by decide, show takeE noBusy = 0 from by decide] at this; exact this
  have t2 : ∀ w, Calls Try.prog 50 #[.agg (pg b1 q1), .int .u64 3, .int .u64 7] w fun e w' => e = .returned (.tuple #[.agg (pg b1 q2), .int .i64 0]) ∧ New w w' := fun w => by
    have := Store_any b1 q1 3 7 w
    rw [show loadE b1 3 = 0 from by decide] at this; exact this
  have t3 : ∀ w, Calls Try.prog 52 #[.agg (pg b1 q2), .int .u64 3] w fun e w' => e = .returned (.tuple #[.int .u64 7, .int .i64 0]) ∧ New w w' := fun w => by
    have := Load_any b1 q2 3 w
    rw [show loadE b1 3 = 0 from by decide, show loadV b1 q2 3 = 7 from by decide] at this; exact this
  have t4 : ∀ w, Calls Try.prog 52 #[.agg (pg b1 q2), .int .u64 8] w fun e w' => e = .returned (.tuple #[.int .u64 0, .int .i64 150]) ∧ New w w' := fun w => by
    have := Load_any b1 q2 8 w
    rw [show loadE b1 8 = 150 from by decide, show loadV b1 q2 8 = 0 from by decide] at this; exact this
  have t5 : ∀ w, Calls Try.prog 45 #[.agg (pg b1 q2)] w fun e w' => e = .returned (.tuple #[.agg (pg b3 q3), .int .i64 1, .int .i64 0]) ∧ New w w' := fun w => by
    have := Take_any b1 q2 w
    rw [show takeN b1 = 1 from by decide, show takeE b1 = 0 from by decide] at this; exact this
  have t6 : ∀ w, Calls Try.prog 46 #[.agg (pg b3 q3), .int .i64 0] w fun e w' => e = .returned (.tuple #[.agg (pg b4 q4), .int .i64 0]) ∧ New w w' := fun w => by
    have := Free_any b3 q3 0 w
    rw [show freeE b3 0 = 0 from by decide] at this; exact this
  have t7 : ∀ w, Calls Try.prog 46 #[.agg (pg b4 q4), .int .i64 0] w fun e w' => e = .returned (.tuple #[.agg (pg (freeB b4 0) (freeQ b4 q4 0)), .int .i64 150]) ∧ New w w' := fun w => by
    have := Free_any b4 q4 0 w
    rw [show freeE b4 0 = 150 from by decide] at this; exact this
  have t8 : ∀ w, Calls Try.prog 46 #[.agg (pg b4 q4), .int .i64 16] w fun e w' => e = .returned (.tuple #[.agg (pg (freeB b4 16) (freeQ b4 q4 16)), .int .i64 2]) ∧ New w w' := fun w => by
    have := Free_any b4 q4 16 w
    rw [show freeE b4 16 = 2 from by decide] at this; exact this
  have t9 : ∀ w, Calls Try.prog 47 #[.agg (pg b3 q3)] w fun e w' => e = .returned (.int .i64 2) ∧ New w w' := fun w => by
    have := Count_any b3 q3 w
    rw [show cnt b3 = 2 from by decide] at this; exact this
  have t10 : ∀ w, Calls Try.prog 47 #[.agg (pg b4 q4)] w fun e w' => e = .returned (.int .i64 1) ∧ New w w' := fun w => by
    have := Count_any b4 q4 w
    rw [show cnt b4 = 1 from by decide] at this; exact this
  have t11 : ∀ w, Calls Try.prog 55 #[.agg (pg b4 q4)] w fun e w' => e = .returned (.bool true) ∧ New w w' := fun w => by
    have := Check_any b4 q4 w
    rw [show chk b4 q4 = true from by decide] at this; exact this
  have hv := Vars.nil w
  obtain ⟨W, hW⟩ : ∃ W : World, w.alloc (.cells Try.zeroCells36 36) = W := ⟨_, rfl⟩
  have hm0 := made_alloc w Try.zeroCells36 36
  rw [hW, zeroPs] at hm0
  replace hv := hv.made hm0
  clear hm0
  generalize b1 = B1 at *
  generalize q1 = Q1 at *
  generalize q2 = Q2 at *
  generalize b3 = B3 at *
  generalize q3 = Q3 at *
  generalize b4 = B4 at *
  generalize q4 = Q4 at *
  go_enter Try.func44, Try.ntmps44

  go_wp2_with (first
    | ((with_reducible refine at_ld36 ?_); refine ldl_pg _ rfl _ _ (hv.row (by first | exact .head _ | exact .tail _ (.head _) | exact .tail _ (.tail _ (.head _)) | exact .tail _ (.tail _ (.tail _ (.head _))) | exact .tail _ (.tail _ (.tail _ (.tail _ (.head _)))) | exact .tail _ (.tail _ (.tail _ (.tail _ (.tail _ (.head _))))))) ?_)
    | ((with_reducible refine at_ldg36 ?_); refine ldg_pg _ rfl _ _ (hv.row (by first | exact .head _ | exact .tail _ (.head _) | exact .tail _ (.tail _ (.head _)) | exact .tail _ (.tail _ (.tail _ (.head _))) | exact .tail _ (.tail _ (.tail _ (.tail _ (.head _)))) | exact .tail _ (.tail _ (.tail _ (.tail _ (.tail _ (.head _))))))) rfl ?_)
    | ((with_reducible refine at_new36 ?_); refine stl_new_pg rfl _ _ rfl ?_; intro w2 hm2; replace hv := hv.made hm2; clear hm2)
    | (go_at_call 45; (with_reducible refine (t1 _).mono ?_); rintro e w1 ⟨rfl, hn1⟩; replace hv := hv.new hn1; clear hn1)
    | (go_at_call 50; (with_reducible refine (t2 _).mono ?_); rintro e w1 ⟨rfl, hn1⟩; replace hv := hv.new hn1; clear hn1)
    | (go_at_call 52; (with_reducible refine (t3 _).mono ?_); rintro e w1 ⟨rfl, hn1⟩; replace hv := hv.new hn1; clear hn1)
    | (go_at_call 52; (with_reducible refine (t4 _).mono ?_); rintro e w1 ⟨rfl, hn1⟩; replace hv := hv.new hn1; clear hn1)
    | (go_at_call 45; (with_reducible refine (t5 _).mono ?_); rintro e w1 ⟨rfl, hn1⟩; replace hv := hv.new hn1; clear hn1)
    | (go_at_call 46; (with_reducible refine (t6 _).mono ?_); rintro e w1 ⟨rfl, hn1⟩; replace hv := hv.new hn1; clear hn1)
    | (go_at_call 46; (with_reducible refine (t7 _).mono ?_); rintro e w1 ⟨rfl, hn1⟩; replace hv := hv.new hn1; clear hn1)
    | (go_at_call 46; (with_reducible refine (t8 _).mono ?_); rintro e w1 ⟨rfl, hn1⟩; replace hv := hv.new hn1; clear hn1)
    | (go_at_call 47; (with_reducible refine (t9 _).mono ?_); rintro e w1 ⟨rfl, hn1⟩; replace hv := hv.new hn1; clear hn1)
    | (go_at_call 47; (with_reducible refine (t10 _).mono ?_); rintro e w1 ⟨rfl, hn1⟩; replace hv := hv.new hn1; clear hn1)
    | (go_at_call 55; (with_reducible refine (t11 _).mono ?_); rintro e w1 ⟨rfl, hn1⟩; replace hv := hv.new hn1; clear hn1))

  go_ret
  exact ⟨rfl, hv.below⟩


set_option maxRecDepth 100000 in
set_option maxHeartbeats 4000000 in
theorem PageTells_nat (b : Nat → Bool) (q : Nat → Nat → Nat) (n : Int) (x v : Nat) (w : World) :
    Calls Try.prog 9 #[.agg (pg b q), .int .i64 n, .int .u64 x, .int .u64 v] w fun e w' => e = .returned (.bool true) ∧ New w w' := by
  have he : ∀ (w : World) (b : Nat → Bool) (q : Nat → Nat → Nat), (Op.equalIn 10000 36 (.agg (pg b q)) (.agg (pg b q))).run Try.prog w = .ok true w := fun w b q => by rw [equalIn_pgM, samePg_self]
  have hv := Vars.nil w
  obtain ⟨W, hW⟩ : ∃ W : World, w.alloc (.cells (pg b q) 36) = W := ⟨_, rfl⟩
  have hm0 := made_alloc w (pg b q) 36
  rw [hW] at hm0
  replace hv := hv.made hm0
  clear hm0
  go_enter Try.func9, Try.ntmps9
  go_wp2_with (first
    | ((with_reducible refine at_ld36 ?_); refine ldl_pg _ rfl _ _ (hv.row (by first | exact .head _ | exact .tail _ (.head _) | exact .tail _ (.tail _ (.head _)) | exact .tail _ (.tail _ (.tail _ (.head _))) | exact .tail _ (.tail _ (.tail _ (.tail _ (.head _)))) | exact .tail _ (.tail _ (.tail _ (.tail _ (.tail _ (.head _))))))) ?_)
    | ((with_reducible refine at_new36 ?_); refine stl_new_pg rfl _ _ rfl ?_; intro w2 hm2; replace hv := hv.made hm2; clear hm2)
    | ((with_reducible refine at_st36 ?_); refine stl_pg _ _ _ rfl rfl _ _ (hv.row (by first | exact .head _ | exact .tail _ (.head _) | exact .tail _ (.tail _ (.head _)) | exact .tail _ (.tail _ (.tail _ (.head _))) | exact .tail _ (.tail _ (.tail _ (.tail _ (.head _)))) | exact .tail _ (.tail _ (.tail _ (.tail _ (.tail _ (.head _))))))) (hv.sft (by first | exact .head _ | exact .tail _ (.head _) | exact .tail _ (.tail _ (.head _)) | exact .tail _ (.tail _ (.tail _ (.head _))) | exact .tail _ (.tail _ (.tail _ (.tail _ (.head _)))) | exact .tail _ (.tail _ (.tail _ (.tail _ (.tail _ (.head _))))))) ?_; intro w2 hw2; replace hv := hv.set 0 rfl hw2; clear hw2; simp only [List.set] at hv)
    | ((with_reducible refine at_st36 ?_); refine stl_pg _ _ _ rfl rfl _ _ (hv.row (by first | exact .head _ | exact .tail _ (.head _) | exact .tail _ (.tail _ (.head _)) | exact .tail _ (.tail _ (.tail _ (.head _))) | exact .tail _ (.tail _ (.tail _ (.tail _ (.head _)))) | exact .tail _ (.tail _ (.tail _ (.tail _ (.tail _ (.head _))))))) (hv.sft (by first | exact .head _ | exact .tail _ (.head _) | exact .tail _ (.tail _ (.head _)) | exact .tail _ (.tail _ (.tail _ (.head _))) | exact .tail _ (.tail _ (.tail _ (.tail _ (.head _)))) | exact .tail _ (.tail _ (.tail _ (.tail _ (.tail _ (.head _))))))) ?_; intro w2 hw2; replace hv := hv.set 1 rfl hw2; clear hw2; simp only [List.set] at hv)
    | (go_at_call 45; refine (Take_any b q _).mono ?_; rintro e w1 ⟨rfl, hn1⟩; replace hv := hv.new hn1; clear hn1)
    | (go_at_call 48; refine (RTake_any b q _).mono ?_; rintro e w1 ⟨rfl, hn1⟩; replace hv := hv.new hn1; clear hn1)
    | (go_at_call 46; refine (Free_any b q n _).mono ?_; rintro e w1 ⟨rfl, hn1⟩; replace hv := hv.new hn1; clear hn1)
    | (go_at_call 49; refine (RFree_any b q n _).mono ?_; rintro e w1 ⟨rfl, hn1⟩; replace hv := hv.new hn1; clear hn1)
    | (go_at_call 50; refine (Store_any b q x v _).mono ?_; rintro e w1 ⟨rfl, hn1⟩; replace hv := hv.new hn1; clear hn1)
    | (go_at_call 51; refine (RStore_any b q x v _).mono ?_; rintro e w1 ⟨rfl, hn1⟩; replace hv := hv.new hn1; clear hn1)
    | (go_at_call 52; refine (Load_any b q x _).mono ?_; rintro e w1 ⟨rfl, hn1⟩; replace hv := hv.new hn1; clear hn1)
    | (go_at_call 53; refine (RLoad_any b q x _).mono ?_; rintro e w1 ⟨rfl, hn1⟩; replace hv := hv.new hn1; clear hn1)
    | (go_at_call 47; refine (Count_any b q _).mono ?_; rintro e w1 ⟨rfl, hn1⟩; replace hv := hv.new hn1; clear hn1)
    | (go_at_call 54; refine (RCount_any b q _).mono ?_; rintro e w1 ⟨rfl, hn1⟩; replace hv := hv.new hn1; clear hn1)
    | (go_at_call 55; refine (Check_any b q _).mono ?_; rintro e w1 ⟨rfl, hn1⟩; replace hv := hv.new hn1; clear hn1)
    | (go_at_call 56; refine (RCheck_any b q _).mono ?_; rintro e w1 ⟨rfl, hn1⟩; replace hv := hv.new hn1; clear hn1)
    | (go_at_call 44; refine (heads15 _).mono ?_; rintro e w1 ⟨rfl, hn1⟩; replace hv := hv.new hn1; clear hn1))

  refine wp_region_class (C := fun w' => Vars w w' _) (by kernel_rfl) (by kernel_rfl) (hv.drewN 1) ?_
  repeat (first
    | go_big_quiet_skip
    | (go_big_quiet_want; first
      | ((with_reducible refine at_qld36 ?_); refine quiet_ld_pg _ rfl _ _ (fun w hw => hw.row (by first | exact .head _ | exact .tail _ (.head _) | exact .tail _ (.tail _ (.head _)) | exact .tail _ (.tail _ (.tail _ (.head _))) | exact .tail _ (.tail _ (.tail _ (.tail _ (.head _)))) | exact .tail _ (.tail _ (.tail _ (.tail _ (.tail _ (.head _))))))) ?_; simp only [Act.put, List.setIfInBounds_toArray, List.set_cons_succ, List.set_cons_zero]; go_big_quiet_on)
      | (go_big_quiet_op; first
        | go_big_quiet_on
        | (refine ⟨_, fun _ _ => rfl, ?_⟩; go_big_quiet_on)
        | (apply Exists.intro; refine ⟨fun w1 hw1 => ?_, ?_⟩; · (first
            | (go_at_call 47; (with_reducible exact calls_new (Count_any b q _) hw1))
            | (go_at_call 54; (with_reducible exact calls_new (RCount_any b q _) hw1))
            | (go_at_call 55; (with_reducible exact calls_new (Check_any b q _) hw1))
            | (go_at_call 56; (with_reducible exact calls_new (RCheck_any b q _) hw1))
            | (go_at_call 44; (with_reducible exact calls_new (heads15 _) hw1)))
           go_big_quiet_on))))
  refine wpQuiet_nil ?_
  intro w9 hv9
  go_wp2
  go_ret
  exact ⟨rfl, hv9.below⟩
end Go.Proofs.Ythpodinbbmgfoaa
